/- Plain: items in memory, rows of cells of their own, a map of numbers; a layout's places. The walks of a layout's methods: lay, way. Conditions: as each theorem says. -/
import Derived.Test.YtcgflnkgekkidaaGreatDoorAsmA
import Derived.Test.YtcgflnkgekkidaaGreatDoorRefFC
import Derived.Maps.Own
import Derived.Maps.OwnOps
import Derived.Maps.Views
import Derived.Laws.MakeOwn
import Derived.Deep.Slices
import Derived.Deep.RegionHeld
import Derived.Deep.MidRow
import Derived.OrdersHeld
import Derived.Deep.LoopGhost
import Derived.Deep.DeepCutAuto
import Derived.Deep.CutBlock
import Derived.Deep.QuietTactic
import Derived.BigQuiet
import Derived.WalkSmall
set_option linter.unusedSimpArgs false
set_option linter.unusedVariables false
namespace Go.Proofs.YtcgflnkgekkidaaGreatDoor
open Go.RowKit Go.Maps Go.ChangeMaps
/-- Items, one behind the other. -/
def ItemsAt (w : World) (ao : Option Addr) (n : Nat) (F : Nat → ItemV) : Prop := 0 < n → ∃ b off, ao = some ⟨b, off, none⟩ ∧ b < w.heap.size ∧ ∀ k, k < n → ∀ j v, (F k).cells[j]? = some v → w.cell? ⟨b, off + k * 12 + j, none⟩ = some v
theorem ItemsAt.keep {w w' : World} {ao : Option Addr} {n : Nat} {F : Nat → ItemV} (h : ItemsAt w ao n F) (hb : Below w.heap.size w w') : ItemsAt w' ao n F := fun hn => by
  obtain ⟨b, off, e, hlt, hc⟩ := h hn
  exact ⟨b, off, e, Nat.lt_of_lt_of_le hlt hb.size, fun k hk j v hv => by rw [hb.cell (p := ⟨b, off + k * 12 + j, none⟩) hlt]; exact hc k hk j v hv⟩
/-- Items below a mark. -/
def ItemsB (B : Nat) (w : World) (ao : Option Addr) (n : Nat) (F : Nat → ItemV) : Prop := 0 < n → ∃ b off, ao = some ⟨b, off, none⟩ ∧ b < B ∧ ∀ k, k < n → ∀ j v, (F k).cells[j]? = some v → w.cell? ⟨b, off + k * 12 + j, none⟩ = some v
theorem ItemsB.keep {B : Nat} {w w' : World} {ao : Option Addr} {n : Nat} {F : Nat → ItemV} (h : ItemsB B w ao n F) (hb : Below B w w') : ItemsB B w' ao n F := fun hn => by
  obtain ⟨b, off, e, hlt, hc⟩ := h hn
  exact ⟨b, off, e, hlt, fun k hk j v hv => by rw [hb.cell (p := ⟨b, off + k * 12 + j, none⟩) hlt]; exact hc k hk j v hv⟩
theorem ItemsB.at {B : Nat} {w : World} {ao : Option Addr} {n : Nat} {F : Nat → ItemV} (h : ItemsB B w ao n F) (hB : B ≤ w.heap.size) : ItemsAt w ao n F := fun hn => by
  obtain ⟨b, off, e, hlt, hc⟩ := h hn
  exact ⟨b, off, e, Nat.lt_of_lt_of_le hlt hB, hc⟩
theorem ItemsAt.b {w : World} {ao : Option Addr} {n : Nat} {F : Nat → ItemV} (h : ItemsAt w ao n F) : ItemsB w.heap.size w ao n F := h
/-- The cells of one item. -/
theorem item_range {w : World} {b o : Nat} {i : ItemV} (hc : ∀ j v, i.cells[j]? = some v → w.cell? ⟨b, o + j, none⟩ = some v) : w.rangeAt b o i.cells.toList := fun j v hv => hc j v (by simpa using hv)
theorem size_setCells (b : Nat) : ∀ (vs : List Value) (o : Nat) (W : World), (W.setCells b o vs).heap.size = W.heap.size
  | [], _, _ => rfl
  | v :: vs, o, W => by
    show ((W.setCell ⟨b, o, none⟩ v).setCells b (o + 1) vs).heap.size = _
    rw [size_setCells b vs]; simp
theorem there_sub {w : World} {b n : Nat} (h : w.there b 0 n) (o m : Nat) (hm : o + m ≤ n) : w.there b o m := fun j hj => by
  have := h (o + j) (by omega)
  rwa [Nat.zero_add] at this
theorem fresh12 (w : World) (Z : Array Value) (hZ : Z.size = 12) (t : TypeId) : (w.alloc (.cells Z t)).there w.heap.size 0 12 := fun j hj => by
  refine ⟨?_, fresh_thawR w Z t _⟩
  rw [World.cell?_alloc_new, Nat.zero_add, Array.getElem?_eq_getElem (by omega)]; rfl
theorem ItB.apart {b q o : Nat} {i : ItemV} {W : World} (h : ItB b i W) (hne : b ≠ q) (vs : List Value) : ItB b i (W.setCells q o vs) :=
  ⟨fun j v hv => by
    have hr : W.rangeAt b j [v] := fun k u hu => by
      rcases k with _ | k
      · simp at hu; subst hu; exact h.c j v hv
      · simp at hu
    exact World.rangeAt_setCells_apart hr q o vs (.inl hne) 0 v rfl, by rw [size_setCells]; exact h.lt⟩
theorem ItemV.one (i : ItemV) : i.cells.all (·.oneCell') = true := by
  obtain ⟨kind, ⟨op, rd, r1, r2, imm, aq, rl, pred, succ⟩, label, addr⟩ := i; kernel_rfl
/-- An item in a new box. -/
theorem ItB.put (w : World) (i : ItemV) (Z : Array Value) (hZ : Z.size = 12) (t : TypeId) : ItB w.heap.size i (World.setCells (w.alloc (.cells Z t)) w.heap.size 0 i.cells.toList) ∧ Below w.heap.size w (World.setCells (w.alloc (.cells Z t)) w.heap.size 0 i.cells.toList) :=
  ⟨⟨fun j v hv => by have := World.rangeAt_setCells_same _ w.heap.size 0 i.cells.toList (fresh12 w Z hZ t) j v (by simpa using hv); rwa [Nat.zero_add] at this, by rw [size_setCells]; simp⟩, below_cells (Nat.le_refl _) _ 0 _ ((Below.refl _ _).alloc (Nat.le_refl _) _)⟩
/-- A row of one-cell elements in a block of its own. -/
structure VR (b n : Nat) (f : Nat → Value) (W : World) : Prop where
  c : ∀ k, k < n → W.cell? ⟨b, k, none⟩ = some (f k)
  z : ∀ k, k < n → W.frozen? ⟨b, k, none⟩ = false
  lt : b < W.heap.size
theorem VR.keep {b n : Nat} {f : Nat → Value} {W W' : World} (h : VR b n f W) (hb : Below W.heap.size W W') : VR b n f W' :=
  ⟨fun k hk => by rw [hb.cell (p := ⟨b, k, none⟩) h.lt]; exact h.c k hk, fun k hk => by rw [hb.frozen (p := ⟨b, k, none⟩) h.lt]; exact h.z k hk, Nat.lt_of_lt_of_le h.lt hb.size⟩
theorem VR.grown {b n : Nat} {f : Nat → Value} {W W' : World} {q : Option Nat} (h : VR b n f W) (hg : W.grownBy W' q) (hq : some b ≠ q) : VR b n f W' :=
  ⟨fun k hk => by rw [World.cell?_of_block (a := ⟨b, k, none⟩) (hg.block b h.lt hq)]; exact h.c k hk, fun k hk => by rw [World.frozen?_of_block (a := ⟨b, k, none⟩) (hg.block b h.lt hq)]; exact h.z k hk, Nat.lt_of_lt_of_le h.lt hg.size⟩
theorem VR.set {b n : Nat} {f : Nat → Value} {W : World} (h : VR b n f W) (k : Nat) (v : Value) (g : Nat → Value) (hg : ∀ j, j < n → g j = if j = k then v else f j) : VR b n g (W.setCell ⟨b, k, none⟩ v) := by
  refine ⟨fun j hj => ?_, fun j hj => by rw [World.frozen?_setCell]; exact h.z j hj, by rw [World.size_setCell]; exact h.lt⟩
  rw [hg j hj]
  by_cases e : j = k
  · rw [if_pos e, e]; exact World.cell?_setCell_same W ⟨b, k, none⟩ v (h.c k (e ▸ hj))
  · rw [if_neg e, World.cell?_setCell_other W ⟨b, k, none⟩ ⟨b, j, none⟩ v (by intro e2; injection e2 with _ e3 _; exact e e3.symm)]; exact h.c j hj
theorem VR.other {b n : Nat} {f : Nat → Value} {W : World} (h : VR b n f W) (p : Addr) (v : Value) (hq : p.block ≠ b) : VR b n f (W.setCell p v) :=
  ⟨fun k hk => by rw [World.cell?_setCell_far _ _ _ _ hq]; exact h.c k hk, fun k hk => by rw [World.frozen?_setCell]; exact h.z k hk, by rw [World.size_setCell]; exact h.lt⟩
theorem VR.congr {b n : Nat} {f g : Nat → Value} {W : World} (h : VR b n f W) (hg : ∀ k, k < n → g k = f k) : VR b n g W := ⟨fun k hk => by rw [hg k hk]; exact h.c k hk, h.z, h.lt⟩
/-- What writes one cell of a block, as growth of that block. -/
theorem grown_setCell (W : World) (g o : Nat) (v : Value) : W.grownBy (W.setCell ⟨g, o, none⟩ v) (some g) :=
  ⟨rfl, rfl, rfl, by rw [World.size_setCell]; exact Nat.le_refl _, fun k hk hne => Below.heap_setCell W ⟨g, o, none⟩ v k (fun e => hne (by rw [e]))⟩
theorem below_grown {W W' : World} (h : Below W.heap.size W W') : W.grownBy W' none := ⟨h.os, h.tape, h.output, h.size, fun k hk _ => h.block k hk⟩
/-- A map of numbers. -/
def MapAt (t : TypeId) (W : World) (b c : Nat) (m : Int → Int) : Prop := ∃ D : DataW Unit, W.ownsMap Tryz.prog t (plainElem Tryz.prog 3) b c D ∧ Maps.IsMap D ∧ ∀ x : Int, D.atKey (.int .i64 x) (.lit (.int .i64 0)) = .lit (.int .i64 (m x))
theorem MapAt.made (t : TypeId) (w : World) : MapAt t (w.alloc (.map #[] 0)) w.heap.size 0 (fun _ => 0) := ⟨_, World.ownsMap_made _ _ _ _, Maps.isMap_empty, fun _ => rfl⟩
theorem MapAt.grown {t : TypeId} {W W' : World} {b c : Nat} {m : Int → Int} {q : Option Nat} (h : MapAt t W b c m) (hg : W.grownBy W' q) (hq : some b ≠ q) : MapAt t W' b c m := by
  obtain ⟨D, h1, h2⟩ := h
  exact ⟨D, h1.kept hg hq, h2⟩
theorem MapAt.keep {t : TypeId} {W W' : World} {b c : Nat} {m : Int → Int} (h : MapAt t W b c m) (hb : Below W.heap.size W W') : MapAt t W' b c m := h.grown (below_grown hb) (by simp)
theorem MapAt.lt {t : TypeId} {W : World} {b c : Nat} {m : Int → Int} (h : MapAt t W b c m) : b < W.heap.size := by obtain ⟨D, h1, _⟩ := h; exact h1.lt
theorem MapAt.mono {t : TypeId} {W : World} {b c c' : Nat} {m : Int → Int} (h : MapAt t W b c m) (hc : c ≤ c') : MapAt t W b c' m := by obtain ⟨D, h1, h2⟩ := h; exact ⟨D, h1.mono hc, h2⟩
/-- A look-up where its guard is met. -/
theorem wpList_lookupG {H : Type} {P : Program} (w : World) {ops : Array Oper} {rest : List Oper} {o : Oper} {a : Act} {Q : Exit → Act → World → Prop} (hw : Region.wanted o (yielded ops a.tmps) = true)
    (m x : Operand) (t : TypeId) (hop : o.op = Op.lookup t m x false)
    (k e : TypeId) (q : IntKind) (K : Go.Maps.Keyed P k) (ht : P.underlying t = some (.map k e)) (he : P.underlying e = some (.int q)) (hz : (zeroValue e).run P w = .ok (.int q 0) w) (b n : Nat) (D : DataW H)
    (hm : a.eval m = .map (some b)) (hown : w.ownsMap P k (plainElem P e) b n D) (key : Value) (kl : Lit) (hx : a.eval x = key) (hkey : keyOf P k key = some kl)
    (hK : ∀ c : Int, D.atKey kl (.lit (.int q 0)) = .lit (.int q c) → (Lit.int q c).wf = true → wpList P ops Q rest (a.put o.dst (.int q c)) w) :
    wpList P ops Q (o :: rest) a w := by
  obtain ⟨c, hrun, hat, hwc⟩ := hown.lookup_int K ht he hz hkey
  refine wpList_step fun K' hK' => ?_
  rw [if_pos hw]
  unfold Oper.wp
  simp [execOp, hop, hm, hx, hrun, Result.andThen]
  exact hK' _ _ (hK c hat hwc)
/-- A store into a map of numbers. -/
theorem wp_setM {w : World} {o : Oper} {a : Act} {K : Act → World → Prop} {Q : Exit → Act → World → Prop}
    (m x v : Operand) (t k : TypeId) (hop : o.op = Op.mapUpdate t m x v) (Ky : Go.Maps.Keyed Tryz.prog k) (ht : Tryz.prog.underlying t = some (.map k 3)) (hk : Tryz.prog.underlying k = some (.int .i64)) (b n : Nat) (f : Int → Int)
    (hm : a.eval m = .map (some b)) (hown : MapAt k w b n f) (hn : n < maxLen) (key val : Int) (hx : a.eval x = .int .i64 key) (hv : a.eval v = .int .i64 val) (hwk : (Lit.int .i64 key).wf = true) (hwv : (Lit.int .i64 val).wf = true)
    (hK : ∀ w', MapAt k w' b (n + 1) (fun y => if y = key then val else f y) → w.grownBy w' (some b) → K (a.put o.dst undef) w') : o.wp Tryz.prog a w K Q := by
  obtain ⟨D, h1, h2, h3⟩ := hown
  obtain ⟨w', hrun, r1, r2⟩ := h1.update Ky ht hn (keyOf_int_mk hk hwk) (plainElem_int Tryz.underlying3 hwv)
  unfold Oper.wp
  simp [execOp, hop, hm, hx, hv, hrun, Result.andThen]
  refine hK w' ⟨_, r1, h2.put _ _, fun y => ?_⟩ r2
  show _ = DataW.lit (Lit.int IntKind.i64 (if y = key then val else f y))
  by_cases e : y = key
  · rw [if_pos e, e]; exact Maps.atKey_put_same h2 (show WideAt.IsKeyLit (.int .i64 key) from trivial) _ _
  · rw [if_neg e, Maps.atKey_put_other (by intro e2; injection e2 with _ e3; exact e e3)]; exact h3 y
/-- A store into a map of numbers, for the walk. -/
theorem wpList_setM (w : World) {ops : Array Oper} {rest : List Oper} {o : Oper} {a : Act} {Q : Exit → Act → World → Prop}
    (hg : o.guard = none) (m x v : Operand) (t k : TypeId) (hop : o.op = Op.mapUpdate t m x v) (K : Go.Maps.Keyed Tryz.prog k) (ht : Tryz.prog.underlying t = some (.map k 3)) (hk : Tryz.prog.underlying k = some (.int .i64)) (b n : Nat) (f : Int → Int)
    (hm : a.eval m = .map (some b)) (hown : MapAt k w b n f) (hn : n < maxLen) (key val : Int) (hx : a.eval x = .int .i64 key) (hv : a.eval v = .int .i64 val) (hwk : (Lit.int .i64 key).wf = true) (hwv : (Lit.int .i64 val).wf = true)
    (hK : ∀ w', MapAt k w' b (n + 1) (fun y => if y = key then val else f y) → w.grownBy w' (some b) → wpList Tryz.prog ops Q rest (a.put o.dst undef) w') :
    wpList Tryz.prog ops Q (o :: rest) a w :=
  wpList_plain hg fun _ hK' => wp_setM m x v t k hop K ht hk b n f hm hown hn key val hx hv hwk hwv fun w' h4 h5 => hK' _ _ (hK w' h4 h5)
/-- A map literal's entry, for the walk. -/
theorem wpList_insM (w : World) {ops : Array Oper} {rest : List Oper} {o : Oper} {a : Act} {Q : Exit → Act → World → Prop}
    (hg : o.guard = none) (m x v : Operand) (t k : TypeId) (hop : o.op = Op.insert t m x v) (Ky : Go.Maps.Keyed Tryz.prog k) (ht : Tryz.prog.underlying t = some (.map k 3)) (hk : Tryz.prog.underlying k = some (.int .i64)) (b n : Nat) (f : Int → Int)
    (hm : a.eval m = .map (some b)) (hown : MapAt k w b n f) (hn : n < maxLen) (key val : Int) (hx : a.eval x = .int .i64 key) (hv : a.eval v = .int .i64 val) (hwk : (Lit.int .i64 key).wf = true) (hwv : (Lit.int .i64 val).wf = true)
    (hK : ∀ w', MapAt k w' b (n + 1) (fun y => if y = key then val else f y) → w.grownBy w' (some b) → wpList Tryz.prog ops Q rest (a.put o.dst undef) w') :
    wpList Tryz.prog ops Q (o :: rest) a w := by
  obtain ⟨D, h1, h2, h3⟩ := hown
  obtain ⟨w', hrun, r1, r2⟩ := h1.update Ky ht hn (keyOf_int_mk hk hwk) (plainElem_int Tryz.underlying3 hwv)
  refine wpList_plain hg fun K' hK' => ?_
  unfold Oper.wp
  simp [execOp, hop, hm, hx, hv, hrun, Result.andThen]
  refine hK' _ _ (hK w' ⟨_, r1, h2.put _ _, fun y => ?_⟩ r2)
  show _ = DataW.lit (Lit.int IntKind.i64 (if y = key then val else f y))
  by_cases e : y = key
  · rw [if_pos e, e]; exact Maps.atKey_put_same h2 (show WideAt.IsKeyLit (.int .i64 key) from trivial) _ _
  · rw [if_neg e, Maps.atKey_put_other (by intro e2; injection e2 with _ e3; exact e e3)]; exact h3 y
/-- A look-up, for the walk. -/
theorem wpList_lookM (w : World) {ops : Array Oper} {rest : List Oper} {o : Oper} {a : Act} {Q : Exit → Act → World → Prop}
    (hw : Region.wanted o (yielded ops a.tmps) = true) (m x : Operand) (t k : TypeId) (hop : o.op = Op.lookup t m x false) (K : Go.Maps.Keyed Tryz.prog k) (ht : Tryz.prog.underlying t = some (.map k 3)) (hk : Tryz.prog.underlying k = some (.int .i64)) (b n : Nat) (f : Int → Int)
    (hm : a.eval m = .map (some b)) (hown : MapAt k w b n f) (key : Int) (hx : a.eval x = .int .i64 key) (hwk : (Lit.int .i64 key).wf = true)
    (h : wpList Tryz.prog ops Q rest (a.put o.dst (.int .i64 (f key))) w) :
    wpList Tryz.prog ops Q (o :: rest) a w := by
  obtain ⟨D, h1, h2, h3⟩ := hown
  refine wpList_lookupG (H := Unit) w hw m x t hop k 3 .i64 K ht Tryz.underlying3 (by kernel_rfl) b n D hm h1 _ (.int .i64 key) hx (keyOf_int_mk hk hwk) ?_
  intro c hc _
  rw [h3] at hc
  injection hc with hc
  injection hc with _ hc
  rw [← hc]; exact h
/-- How many words an item has. -/
def sizeW (i : ItemV) (l : Bool) : Int := lenV i false + (if l then 1 else 0)
theorem lenV_bd (i : ItemV) (l : Bool) : 0 ≤ lenV i l ∧ lenV i l ≤ 12 := by
  have h : (numV i.insn.rd i.addr).length ≤ 12 := numF_len 6 i.insn.rd i.addr
  unfold lenV
  generalize (numV i.insn.rd i.addr).length = q at h ⊢
  by_cases h1 : i.kind = 2
  · rw [if_pos h1]; omega
  · rw [if_neg h1]
    by_cases h2 : i.kind = 5
    · rw [if_pos h2]; omega
    · rw [if_neg h2]
      by_cases h3 : i.kind = 3 ∧ l = true
      · rw [if_pos h3]; omega
      · rw [if_neg h3]; omega
/-- The place of item k. -/
def placeF (F : Nat → ItemV) (L : Nat → Bool) : Nat → Int
  | 0 => 0
  | k + 1 => placeF F L k + sizeW (F k) (L k)
theorem placeF_bd (F : Nat → ItemV) (L : Nat → Bool) : ∀ k : Nat, 0 ≤ placeF F L k ∧ placeF F L k ≤ 13 * k
  | 0 => by simp [placeF]
  | k + 1 => by
    have ih := placeF_bd F L k
    have := lenV_bd (F k) false
    unfold placeF sizeW
    split <;> omega
/-- What stands behind k items: each label's place. -/
def labF (F : Nat → ItemV) (L : Nat → Bool) (m : Int → Int) : Nat → Int → Int
  | 0 => m
  | k + 1 => fun x => if (F k).kind = 2 ∧ x = (F k).label then placeF F L k else labF F L m k x
theorem labF_bd (F : Nat → ItemV) (L : Nat → Bool) (m : Int → Int) (x : Int) (n : Nat) (hm : 0 ≤ m x ∧ m x ≤ 13 * n) : ∀ k : Nat, k ≤ n → 0 ≤ labF F L m k x ∧ labF F L m k x ≤ 13 * n
  | 0, _ => hm
  | k + 1, hk => by
    have ih := labF_bd F L m x n hm k (by omega)
    have := placeF_bd F L k
    unfold labF
    split <;> omega
/-- The way from an item, and so many words behind, to its label. -/
def wayF (F : Nat → ItemV) (L : Nat → Bool) (m : Int → Int) (k : Nat) (behind : Int) : Int := 4 * (m (F k).label - placeF F L k - behind)
/-- A bound exists below n. -/
def anyB (p : Nat → Bool) : Nat → Bool
  | 0 => false
  | k + 1 => anyB p k || p k
theorem anyB_true {p : Nat → Bool} : ∀ {n k : Nat}, k < n → p k = true → anyB p n = true
  | 0, _, h, _ => absurd h (Nat.not_lt_zero _)
  | n + 1, k, h, hp => by
    unfold anyB
    rcases Nat.lt_or_ge k n with h2 | h2
    · rw [anyB_true h2 hp]; rfl
    · obtain rfl : k = n := by omega
      rw [hp, Bool.or_true]
theorem anyB_false {p : Nat → Bool} : ∀ {n : Nat}, (∀ k, k < n → p k = false) → anyB p n = false
  | 0, _ => rfl
  | n + 1, h => by unfold anyB; rw [anyB_false fun k hk => h k (by omega), h n (by omega)]; rfl
theorem anyB_no {p : Nat → Bool} {n : Nat} (h : anyB p n = false) (k : Nat) (hk : k < n) : p k = false := by
  cases hp : p k with
  | false => rfl
  | true => rw [anyB_true hk hp] at h; cases h
theorem anyB_yes {p : Nat → Bool} : ∀ {n : Nat}, anyB p n = true → ∃ k, k < n ∧ p k = true
  | 0, h => by cases h
  | n + 1, h => by
    unfold anyB at h
    rcases Bool.or_eq_true_iff.1 h with h | h
    · obtain ⟨k, hk, hp⟩ := anyB_yes h; exact ⟨k, by omega, hp⟩
    · exact ⟨n, by omega, h⟩
theorem labF_def (F : Nat → ItemV) (L : Nat → Bool) (m m' : Int → Int) (x : Int) : ∀ n : Nat, (∃ k, k < n ∧ (F k).kind = 2 ∧ x = (F k).label) → labF F L m n x = labF F L m' n x
  | 0, h => by obtain ⟨k, hk, _⟩ := h; exact absurd hk (Nat.not_lt_zero _)
  | n + 1, h => by
    unfold labF
    by_cases e : (F n).kind = 2 ∧ x = (F n).label
    · rw [if_pos e, if_pos e]
    · rw [if_neg e, if_neg e]
      refine labF_def F L m m' x n ?_
      obtain ⟨k, hk, h2⟩ := h
      refine ⟨k, ?_, h2⟩
      rcases Nat.lt_or_ge k n with h3 | h3
      · exact h3
      · obtain rfl : k = n := by omega
        exact absurd h2 e
theorem labF_undef (F : Nat → ItemV) (L : Nat → Bool) (m : Int → Int) (x : Int) : ∀ n : Nat, (∀ k, k < n → ¬ ((F k).kind = 2 ∧ x = (F k).label)) → labF F L m n x = m x
  | 0, _ => rfl
  | n + 1, h => by
    unfold labF
    rw [if_neg (h n (by omega))]
    exact labF_undef F L m x n fun k hk => h k (by omega)
/-- Each label's place. -/
def labV (F : Nat → ItemV) (L : Nat → Bool) (n : Nat) : Int → Int := labF F L (fun _ => 0) n
theorem labF_over (F : Nat → ItemV) (L L' : Nat → Bool) (n : Nat) : labF F L (labV F L' n) n = labV F L n := by
  funext x
  by_cases h : ∃ k, k < n ∧ (F k).kind = 2 ∧ x = (F k).label
  · exact labF_def F L _ _ x n h
  · have h2 : ∀ k, k < n → ¬ ((F k).kind = 2 ∧ x = (F k).label) := fun k hk h3 => h ⟨k, hk, h3⟩
    unfold labV
    rw [labF_undef F L _ x n h2, labF_undef F L' _ x n h2, labF_undef F L _ x n h2]
theorem labV_bd (F : Nat → ItemV) (L : Nat → Bool) (n : Nat) (x : Int) : 0 ≤ labV F L n x ∧ labV F L n x ≤ 13 * n := labF_bd F L (fun _ => 0) x n ⟨Int.le_refl _, by omega⟩ n (Nat.le_refl _)
theorem wayF_bd (F : Nat → ItemV) (L : Nat → Bool) (n k : Nat) (b : Int) (hn : n ≤ 16384) (hk : k < n) (hb0 : 0 ≤ b) (hb : b ≤ 1) : -1048576 ≤ wayF F L (labV F L n) k b ∧ wayF F L (labV F L n) k b ≤ 1048575 := by
  have h1 := labV_bd F L n (F k).label
  have h2 := placeF_bd F L k
  unfold wayF
  omega
theorem fits21 (v : Int) (h1 : -1048576 ≤ v) (h2 : v ≤ 1048575) : Fits v 21 = true := by
  unfold Fits Sign sn
  rw [show (64 - cl 21) = 43 by decide, BitVec.toInt_sshiftRight, beq_iff_eq, BitVec.toInt_shiftLeft]
  have e : (bv v).toNat = (v % 18446744073709551616).toNat := by
    unfold bv
    simp
  rw [e, Int.shiftRight_eq_div_pow]
  simp only [Int.bmod_def, Nat.shiftLeft_eq]
  omega
/-- Must branch k become long? -/
def condF (F : Nat → ItemV) (n : Nat) (L : Nat → Bool) (k : Nat) : Bool := decide ((F k).kind = 3) && !L k && !Fits (wayF F L (labV F L n) k 0) 13
def stepF (F : Nat → ItemV) (n : Nat) (L : Nat → Bool) : Nat → Bool := fun k => L k || condF F n L k
def growF (F : Nat → ItemV) (n : Nat) : Nat → (Nat → Bool) → (Nat → Bool)
  | 0, L => L
  | f + 1, L => if anyB (condF F n L) n = true then growF F n f (stepF F n L) else L
/-- Which branches are long. -/
def longV (F : Nat → ItemV) (n : Nat) : Nat → Bool := growF F n (n + 1) (fun _ => false)
def cntF (L : Nat → Bool) : Nat → Nat
  | 0 => 0
  | k + 1 => cntF L k + (if L k then 1 else 0)
theorem cntF_le (L : Nat → Bool) : ∀ n, cntF L n ≤ n
  | 0 => Nat.le_refl _
  | n + 1 => by have := cntF_le L n; unfold cntF; split <;> omega
theorem cntF_mono (L L' : Nat → Bool) (h : ∀ k, L k = true → L' k = true) : ∀ n, cntF L n ≤ cntF L' n
  | 0 => Nat.le_refl _
  | n + 1 => by
    have := cntF_mono L L' h n
    unfold cntF
    cases hL : L n with
    | false => simp; omega
    | true => rw [h n hL]; simp; omega
theorem cntF_more (L L' : Nat → Bool) (h : ∀ k, L k = true → L' k = true) : ∀ n, (∃ k, k < n ∧ L k = false ∧ L' k = true) → cntF L n + 1 ≤ cntF L' n
  | 0, h2 => by obtain ⟨k, hk, _⟩ := h2; exact absurd hk (Nat.not_lt_zero _)
  | n + 1, h2 => by
    obtain ⟨k, hk, e1, e2⟩ := h2
    unfold cntF
    rcases Nat.lt_or_ge k n with h3 | h3
    · have := cntF_more L L' h n ⟨k, h3, e1, e2⟩
      cases hL : L n with
      | false => simp; omega
      | true => rw [h n hL]; simp; omega
    · obtain rfl : k = n := by omega
      have := cntF_mono L L' h k
      rw [e1, e2]; simp; omega
theorem cntF_step (F : Nat → ItemV) (n : Nat) (L : Nat → Bool) (h : anyB (condF F n L) n = true) : cntF L n + 1 ≤ cntF (stepF F n L) n := by
  obtain ⟨k, hk, hc⟩ := anyB_yes h
  refine cntF_more L _ (fun j hj => by unfold stepF; rw [hj]; rfl) n ⟨k, hk, ?_, by unfold stepF; rw [hc, Bool.or_true]⟩
  unfold condF at hc
  cases hL : L k with
  | false => rfl
  | true => rw [hL] at hc; simp at hc
/-- Those that must become long, ascending. -/
def moreF (p : Nat → Bool) : Nat → List Int
  | 0 => []
  | k + 1 => moreF p k ++ (if p k = true then [(k : Int)] else [])
theorem moreF_mem (p : Nat → Bool) (x : Int) : ∀ n, x ∈ moreF p n ↔ ∃ k : Nat, k < n ∧ p k = true ∧ x = k
  | 0 => by simp [moreF]
  | n + 1 => by
    unfold moreF
    rw [List.mem_append, moreF_mem p x n]
    constructor
    · rintro (⟨k, hk, h⟩ | h)
      · exact ⟨k, by omega, h⟩
      · split at h
        · simp at h; exact ⟨n, by omega, by assumption, h⟩
        · cases h
    · rintro ⟨k, hk, hp, rfl⟩
      rcases Nat.lt_or_ge k n with h3 | h3
      · exact .inl ⟨k, h3, hp, rfl⟩
      · obtain rfl : k = n := by omega
        right; rw [if_pos hp]; simp
theorem moreF_len (p : Nat → Bool) : ∀ n, (moreF p n).length ≤ n
  | 0 => Nat.le_refl _
  | n + 1 => by have := moreF_len p n; unfold moreF; rw [List.length_append]; split <;> simp <;> omega
theorem moreF_nil (p : Nat → Bool) (n : Nat) : (moreF p n).length = 0 ↔ anyB p n = false := by
  constructor
  · intro h
    refine anyB_false fun k hk => ?_
    cases hp : p k with
    | false => rfl
    | true =>
      have := (moreF_mem p k n).2 ⟨k, hk, hp, rfl⟩
      rw [List.length_eq_zero_iff.1 h] at this; cases this
  · intro h
    rw [List.length_eq_zero_iff]
    refine List.eq_nil_iff_forall_not_mem.2 fun x hx => ?_
    obtain ⟨k, hk, hp, -⟩ := (moreF_mem p x n).1 hx
    rw [anyB_no h k hk] at hp; cases hp
/-- The instructions of item k. -/
def insnsV (F : Nat → ItemV) (n : Nat) (L : Nat → Bool) (k : Nat) : List InsnV :=
  if (F k).kind = 2 then []
  else if (F k).kind = 5 then numV (F k).insn.rd (F k).addr
  else if (F k).kind = 3 ∨ (F k).kind = 4 then
    (if L k = true then [{ (F k).insn with op := turnedV (F k).insn.op, imm := 8 }, ⟨3, 0, 0, 0, wayF F L (labV F L n) k 1, false, false, 0, 0⟩]
     else [{ (F k).insn with imm := wayF F L (labV F L n) k 0 }])
  else [(F k).insn]
end Go.Proofs.YtcgflnkgekkidaaGreatDoor
namespace Go.Proofs.YtcgflnkgekkidaaGreatDoor
open Go.RowKit Go.Maps
theorem label_keyed : Go.Maps.Keyed Tryz.prog 98 := int_keyed Tryz.underlying98
/-- What is asked of items beside that they are numbers. -/
def FitF (F : Nat → ItemV) (n : Nat) : Prop := ∀ k, k < n → (F k).insn.op ≤ 9223372036854775807 ∧ (Lit.int .i64 (F k).label).wf = true
/-- A layout in memory: of items below a mark B, in blocks from the mark on. -/
structure LYS (B y bs bl bp bm : Nat) (ao : Option Addr) (n cap c : Nat) (F : Nat → ItemV) (S : Nat → Int) (L : Nat → Bool) (R : Nat → Int) (m : Int → Int) (W : World) : Prop where
  c0 : W.cell? ⟨y, 0, none⟩ = some (.slice ao n cap)
  c1 : W.cell? ⟨y, 1, none⟩ = some (.slice (some ⟨bs, 0, none⟩) n n)
  c2 : W.cell? ⟨y, 2, none⟩ = some (.slice (some ⟨bl, 0, none⟩) n n)
  c3 : W.cell? ⟨y, 3, none⟩ = some (.slice (some ⟨bp, 0, none⟩) n n)
  c4 : W.cell? ⟨y, 4, none⟩ = some (.map (some bm))
  it : ItemsB B W ao n F
  vs : VR bs n (fun k => .int .i64 (S k)) W
  vl : VR bl n (fun k => .bool (L k)) W
  vp : VR bp n (fun k => .int .i64 (R k)) W
  vm : MapAt 98 W bm c m
  ge : B ≤ y ∧ B ≤ bs ∧ B ≤ bl ∧ B ≤ bp ∧ B ≤ bm
  ne : y ≠ bl ∧ y ≠ bp ∧ y ≠ bm ∧ bs ≠ bl ∧ bs ≠ bp ∧ bs ≠ bm ∧ bl ≠ bp ∧ bl ≠ bm ∧ bp ≠ bm ∧ y ≠ bs
  lt : y < W.heap.size
section
variable {B y bs bl bp bm : Nat} {ao : Option Addr} {n cap c : Nat} {F : Nat → ItemV} {S : Nat → Int} {L : Nat → Bool} {R : Nat → Int} {m : Int → Int} {W W' : World}
theorem LYS.mark (h : LYS B y bs bl bp bm ao n cap c F S L R m W) : B ≤ W.heap.size := Nat.le_trans h.ge.1 (Nat.le_of_lt h.lt)
theorem LYS.keep (h : LYS B y bs bl bp bm ao n cap c F S L R m W) (hb : Below W.heap.size W W') : LYS B y bs bl bp bm ao n cap c F S L R m W' := by
  have k : ∀ j v, W.cell? ⟨y, j, none⟩ = some v → W'.cell? ⟨y, j, none⟩ = some v := fun j v hv => by rw [hb.cell (p := ⟨y, j, none⟩) h.lt]; exact hv
  exact ⟨k _ _ h.c0, k _ _ h.c1, k _ _ h.c2, k _ _ h.c3, k _ _ h.c4, h.it.keep (hb.mono h.mark), h.vs.keep hb, h.vl.keep hb, h.vp.keep hb, h.vm.keep hb, h.ge, h.ne, Nat.lt_of_lt_of_le h.lt hb.size⟩
theorem LYS.setP (h : LYS B y bs bl bp bm ao n cap c F S L R m W) (k : Nat) (v : Int) (R' : Nat → Int) (hR : ∀ j, j < n → R' j = if j = k then v else R j) : LYS B y bs bl bp bm ao n cap c F S L R' m (W.setCell ⟨bp, k, none⟩ (.int .i64 v)) := by
  obtain ⟨n1, n2, n3, n4, n5, n6, n7, n8, n9, n10⟩ := h.ne
  have hk : ∀ j u, W.cell? ⟨y, j, none⟩ = some u → (W.setCell ⟨bp, k, none⟩ (.int .i64 v)).cell? ⟨y, j, none⟩ = some u := fun j u hu => by
    rw [World.cell?_setCell_far W ⟨bp, k, none⟩ ⟨y, j, none⟩ _ (fun e => n2 e.symm)]; exact hu
  refine ⟨hk _ _ h.c0, hk _ _ h.c1, hk _ _ h.c2, hk _ _ h.c3, hk _ _ h.c4, h.it.keep ((Below.refl B W).setCell h.ge.2.2.2.1 _), h.vs.other _ _ (fun e => n5 e.symm), h.vl.other _ _ (fun e => n7 e.symm), h.vp.set k _ _ (fun j hj => ?_), h.vm.grown (grown_setCell _ _ _ _) (fun e => n9 (by injection e with e; exact e.symm)), h.ge, h.ne, by rw [World.size_setCell]; exact h.lt⟩
  rw [hR j hj]; split <;> rfl
theorem LYS.setL (h : LYS B y bs bl bp bm ao n cap c F S L R m W) (k : Nat) (v : Bool) (L' : Nat → Bool) (hR : ∀ j, j < n → L' j = if j = k then v else L j) : LYS B y bs bl bp bm ao n cap c F S L' R m (W.setCell ⟨bl, k, none⟩ (.bool v)) := by
  obtain ⟨n1, n2, n3, n4, n5, n6, n7, n8, n9, n10⟩ := h.ne
  have hk : ∀ j u, W.cell? ⟨y, j, none⟩ = some u → (W.setCell ⟨bl, k, none⟩ (.bool v)).cell? ⟨y, j, none⟩ = some u := fun j u hu => by
    rw [World.cell?_setCell_far W ⟨bl, k, none⟩ ⟨y, j, none⟩ _ (fun e => n1 e.symm)]; exact hu
  refine ⟨hk _ _ h.c0, hk _ _ h.c1, hk _ _ h.c2, hk _ _ h.c3, hk _ _ h.c4, h.it.keep ((Below.refl B W).setCell h.ge.2.2.1 _), h.vs.other _ _ (fun e => n4 e.symm), h.vl.set k _ _ (fun j hj => ?_), h.vp.other _ _ n7, h.vm.grown (grown_setCell _ _ _ _) (fun e => n8 (by injection e with e; exact e.symm)), h.ge, h.ne, by rw [World.size_setCell]; exact h.lt⟩
  rw [hR j hj]; split <;> rfl
theorem LYS.setM {c' : Nat} {m' : Int → Int} (h : LYS B y bs bl bp bm ao n cap c F S L R m W) (hm : MapAt 98 W' bm c' m') (hg : W.grownBy W' (some bm)) : LYS B y bs bl bp bm ao n cap c' F S L R m' W' := by
  obtain ⟨n1, n2, n3, n4, n5, n6, n7, n8, n9, n10⟩ := h.ne
  have hk : ∀ j u, W.cell? ⟨y, j, none⟩ = some u → W'.cell? ⟨y, j, none⟩ = some u := fun j u hu => hg.cell hu (fun e => n3 (by injection e))
  exact ⟨hk _ _ h.c0, hk _ _ h.c1, hk _ _ h.c2, hk _ _ h.c3, hk _ _ h.c4, h.it.keep ((Below.refl B W).grown hg h.mark (fun j hj => by injection hj with hj; rw [← hj]; exact h.ge.2.2.2.2)), h.vs.grown hg (fun e => n6 (by injection e)), h.vl.grown hg (fun e => n8 (by injection e)), h.vp.grown hg (fun e => n9 (by injection e)), hm, h.ge, h.ne, Nat.lt_of_lt_of_le h.lt hg.size⟩
theorem LYS.setS (h : LYS B y bs bl bp bm ao n cap c F S L R m W) (k : Nat) (v : Int) (S' : Nat → Int) (hR : ∀ j, j < n → S' j = if j = k then v else S j) : LYS B y bs bl bp bm ao n cap c F S' L R m (W.setCell ⟨bs, k, none⟩ (.int .i64 v)) := by
  obtain ⟨n1, n2, n3, n4, n5, n6, n7, n8, n9, n10⟩ := h.ne
  have hk : ∀ j u, W.cell? ⟨y, j, none⟩ = some u → (W.setCell ⟨bs, k, none⟩ (.int .i64 v)).cell? ⟨y, j, none⟩ = some u := fun j u hu => by
    rw [World.cell?_setCell_far W ⟨bs, k, none⟩ ⟨y, j, none⟩ _ (fun e => n10 e.symm)]; exact hu
  refine ⟨hk _ _ h.c0, hk _ _ h.c1, hk _ _ h.c2, hk _ _ h.c3, hk _ _ h.c4, h.it.keep ((Below.refl B W).setCell h.ge.2.1 _), h.vs.set k _ _ (fun j hj => ?_), h.vl.other _ _ n4, h.vp.other _ _ n5, h.vm.grown (grown_setCell _ _ _ _) (fun e => n6 (by injection e with e; exact e.symm)), h.ge, h.ne, by rw [World.size_setCell]; exact h.lt⟩
  rw [hR j hj]; split <;> rfl
theorem LYS.congrS {S' : Nat → Int} (h : LYS B y bs bl bp bm ao n cap c F S L R m W) (hS : ∀ k, k < n → S' k = S k) : LYS B y bs bl bp bm ao n cap c F S' L R m W :=
  ⟨h.c0, h.c1, h.c2, h.c3, h.c4, h.it, h.vs.congr fun k hk => by rw [hS k hk], h.vl, h.vp, h.vm, h.ge, h.ne, h.lt⟩
theorem LYS.congr {R' : Nat → Int} {L' : Nat → Bool} (h : LYS B y bs bl bp bm ao n cap c F S L R m W) (hL : ∀ k, k < n → L' k = L k) (hR : ∀ k, k < n → R' k = R k) : LYS B y bs bl bp bm ao n cap c F S L' R' m W :=
  ⟨h.c0, h.c1, h.c2, h.c3, h.c4, h.it, h.vs, h.vl.congr fun k hk => by rw [hL k hk], h.vp.congr fun k hk => by rw [hR k hk], h.vm, h.ge, h.ne, h.lt⟩
end
/-- A layout whose items' sizes are known. -/
abbrev LY (B y bs bl bp bm : Nat) (ao : Option Addr) (n cap c : Nat) (F : Nat → ItemV) (L : Nat → Bool) (R : Nat → Int) (m : Int → Int) (W : World) : Prop := LYS B y bs bl bp bm ao n cap c F (fun k => lenV (F k) false) L R m W
theorem bl_drewN {B : Nat} {a w : World} (h : Below B a w) (q : Nat) : Below B a (w.drewN q) := h.trans ⟨rfl, rfl, rfl, Nat.le_refl _, fun _ _ => rfl⟩
set_option maxRecDepth 100000 in
theorem MapAt.look {W : World} {t k : TypeId} {b c : Nat} {f : Int → Int} (h : MapAt k W b c f) (K : Go.Maps.Keyed Tryz.prog k) (ht : Tryz.prog.underlying t = some (.map k 3)) (hk : Tryz.prog.underlying k = some (.int .i64)) (x : Int) (hwk : (Lit.int .i64 x).wf = true) :
    (Instr.lookup t (.map (some b)) (.int .i64 x) false).run Tryz.prog W = .ok (.int .i64 (f x)) W := by
  obtain ⟨D, h1, h2, h3⟩ := h
  obtain ⟨v, hrun, hat, -⟩ := h1.lookup_int K ht (q := .i64) Tryz.underlying3 (by kernel_rfl) (keyOf_int_mk hk hwk)
  have e : (DataW.lit (Lit.int IntKind.i64 (f x)) : DataW Unit) = .lit (.int .i64 v) := (h3 x).symm.trans hat
  injection e with e
  injection e with _ e
  rw [hrun, e]
theorem MapAt.drewN {W : World} {k : TypeId} {b c : Nat} {f : Int → Int} (h : MapAt k W b c f) (q : Nat) : MapAt k (W.drewN q) b c f := h.keep (bl_drewN (Below.refl _ _) q)
section
attribute [local irreducible] lenV
set_option maxRecDepth 100000 in
set_option maxHeartbeats 8000000 in
/-- The way to item i's label. -/
theorem Way_any {B y bs bl bp bm : Nat} {ao : Option Addr} {n cap c : Nat} {F : Nat → ItemV} {L : Nat → Bool} {R : Nat → Int} {m : Int → Int} (W : World) (h : LY B y bs bl bp bm ao n cap c F L R m W) (hF : FitF F n) (k : Nat) (b : Int) (hk : k < n) (hn : n ≤ 16384)
    (hm : 0 ≤ m (F k).label ∧ m (F k).label ≤ 13 * n) (hR : 0 ≤ R k ∧ R k ≤ 13 * n) (hb0 : 0 ≤ b) (hb1 : b ≤ 1) :
    Calls Tryz.prog 74 #[.pointer (some ⟨y, 0, none⟩), .int .i64 k, .int .i64 b] W fun e w' => e = .returned (.int .i64 (4 * (m (F k).label - R k - b))) ∧ Below W.heap.size W w' := by
  obtain ⟨ib, io, rfl, hlt, hc⟩ := h.it (by omega)
  have hlab : W.cell? ⟨ib, io + k * 12 + 10, none⟩ = some (.int .i64 (F k).label) := hc k hk 10 _ rfl
  obtain ⟨-, hwl⟩ := hF k hk
  have hpl : W.cell? ⟨bp, k, none⟩ = some (.int .i64 (R k)) := h.vp.c k hk
  have h0 := h.c0
  have h3 := h.c3
  have h4 := h.c4
  have hM : Hid (∀ q x, (Lit.int .i64 x).wf = true → (Instr.lookup 77 (.map (some bm)) (.int .i64 x) false).run Tryz.prog (W.drewN q) = .ok (.int .i64 (m x)) (W.drewN q)) := Lib.hid fun q x hx => (h.vm.drewN q).look label_keyed Tryz.underlying77 Tryz.underlying98 x hx
  obtain ⟨lab, hlv⟩ : ∃ x, (F k).label = x := ⟨_, rfl⟩
  rw [hlv] at hlab hwl hm ⊢
  obtain ⟨to', hto⟩ : ∃ x, m lab = x := ⟨_, rfl⟩
  obtain ⟨fr, hfr⟩ : ∃ x, R k = x := ⟨_, rfl⟩
  have hlk : ∀ q, (Instr.lookup 77 (.map (some bm)) (.int .i64 lab) false).run Tryz.prog (W.drewN q) = .ok (.int .i64 to') (W.drewN q) := fun q => by rw [← hto]; exact hM.out q lab hwl
  rw [hto] at hm ⊢
  rw [hfr] at hR hpl ⊢
  have hk1 : (0 : Int) ≤ (k : Int) := by omega
  have hk2 : (k : Int) < (n : Int) := by omega
  have e1 : wrap64 (to' - fr) = to' - fr := IntWalk.wrap64_in _ ⟨by omega, by omega⟩
  have e2 : wrap64 (to' - fr - b) = to' - fr - b := IntWalk.wrap64_in _ ⟨by omega, by omega⟩
  have e3 : wrap64 (4 * (to' - fr - b)) = 4 * (to' - fr - b) := IntWalk.wrap64_in _ ⟨by omega, by omega⟩
  clear hc h hF hlv hfr hM hto hwl
  go_enter Tryz.func74, Tryz.ntmps74
  go_upto_region 1 with fail
  go_quiet (fail)
  go_wp2
  go_ret
  exact ⟨rfl, bl_drewN (Below.refl _ _) nq⟩
set_option maxRecDepth 100000 in
set_option maxHeartbeats 8000000 in
/-- The places are found. -/
theorem Lay_any {B y bs bl bp bm : Nat} {ao : Option Addr} {n cap c : Nat} {F : Nat → ItemV} {L : Nat → Bool} {R : Nat → Int} {m : Int → Int} (W : World) (h : LY B y bs bl bp bm ao n cap c F L R m W) (hF : FitF F n) (hn : n ≤ 16384) (hc : c ≤ 1000000000) :
    Calls Tryz.prog 72 #[.pointer (some ⟨y, 0, none⟩)] W fun e w' => e = .returned (.tuple #[]) ∧ LY B y bs bl bp bm ao n cap (c + n) F L (placeF F L) (labF F L m n) w' ∧ Below B W w' := by
  have hmk : Tryz.prog.follows .mixedOrders = true := by kernel_rfl
  replace hF := Lib.hid hF
  have h0 := h.c0
  go_enter Tryz.func72, Tryz.ntmps72
  go_wp2_with fail
  go_loopw [2, 10] (fun s2 s10 wr => ∃ k : Nat, k ≤ n ∧ s2 = .int .i64 (placeF F L k) ∧ s10 = .int .i64 k ∧ LY B y bs bl bp bm ao n cap (c + k) F L (fun j => if j < k then placeF F L j else R j) (labF F L m k) wr ∧ Below B W wr) (fun _ s10 _ => n - (intOf s10).toNat)
  case atStart => exact ⟨0, Nat.zero_le _, rfl, rfl, h.congr (fun _ _ => rfl) (fun _ _ => rfl), Below.refl _ _⟩
  case round =>
    obtain ⟨k, hk, rfl, rfl, hL, hb⟩ := hrel
    clear h h0
    by_cases hlt : k < n
    · obtain ⟨ib, io, rfl, hib, hcc⟩ := hL.it (by omega)
      have hR0 := Lib.hid (item_range (hcc k hlt))
      have hwl := (hF.out k hlt).2
      have hbd := placeF_bd F L k
      have hlb := lenV_bd (F k) false
      have hP1 : Hid (placeF F L (k + 1) = placeF F L k + lenV (F k) false + (if L k then 1 else 0)) := Lib.hid (by show placeF F L k + (lenV (F k) false + _) = _; omega)
      have hM1 : Hid (labF F L m (k + 1) = fun x => if (F k).kind = 2 ∧ x = (F k).label then placeF F L k else labF F L m k x) := Lib.hid rfl
      obtain ⟨it, hit⟩ : ∃ it, F k = it := ⟨_, rfl⟩
      rw [hit] at hR0 hwl hlb hP1 hM1
      obtain ⟨at1, hat⟩ : ∃ x, placeF F L k = x := ⟨_, rfl⟩
      rw [hat] at hbd hP1 hM1 ⊢
      obtain ⟨sz, hsv⟩ : ∃ x, lenV it false = x := ⟨_, rfl⟩
      rw [hsv] at hlb hP1
      obtain ⟨lk, hLk⟩ : ∃ x, L k = x := ⟨_, rfl⟩
      rw [hLk] at hP1
      obtain ⟨kind, insn, label, addr⟩ := it
      replace hit := Lib.hid hit
      replace hsv := Lib.hid hsv
      replace hat := Lib.hid hat
      replace hLk := Lib.hid hLk
      simp only at hwl hM1
      clear hcc
      have hk1 : (0 : Int) ≤ (k : Int) := by omega
      have hk2 : (k : Int) < (n : Int) := by omega
      have hk3 : decide ((k : Int) < (n : Int)) = true := decide_eq_true hk2
      have hpt := Lib.hid (ItB.put wr ⟨kind, insn, label, addr⟩ #[.int .i64 0, .int .i64 0, .int .i64 0, .int .i64 0, .int .i64 0, .int .i64 0, .bool false, .bool false, .int .i64 0, .int .i64 0, .int .i64 0, .int .u64 0] rfl 29)
      have hth := Lib.hid (fresh12 wr #[.int .i64 0, .int .i64 0, .int .i64 0, .int .i64 0, .int .i64 0, .int .i64 0, .bool false, .bool false, .int .i64 0, .int .i64 0, .int .i64 0, .int .u64 0] rfl 29)
      have hon := Lib.hid (ItemV.one ⟨kind, insn, label, addr⟩)
      go_upto_region 4 with (first | (refine wpList_load_mid rfl 29 _ rfl ib (io + k * 12) rfl _ _ hR0.out Tryz.underlying29 rfl (by kernel_rfl) ?_) | (refine wpList_store_mid rfl 29 _ _ rfl wr.heap.size 0 (ItemV.cells ⟨kind, insn, label, addr⟩) rfl rfl (fun j hj => hth.out j hj) (by kernel_rfl) hon.out ?_))
      replace hpt := hpt.out
      clear hth hon hR0
      generalize World.setCells _ wr.heap.size 0 _ = w1 at hpt ⊢
      obtain ⟨hbx, hb1⟩ := hpt
      have hnb : wr.heap.size ≠ bp := Nat.ne_of_gt hL.vp.lt
      have hnm : wr.heap.size ≠ bm := Nat.ne_of_gt hL.vm.lt
      replace hb := hb.trans (hb1.mono hL.mark)
      replace hL := hL.keep hb1
      clear hb1
      generalize wr.heap.size = bx at hbx hnb hnm ⊢
      have h3 := hL.c3
      have hpc := hL.vp.c k hlt
      have hpf := hL.vp.z k hlt
      replace hL := Lib.hid hL
      go_upto_region 5 with fail
      clear h3 hpc hpf
      have hb9 : Below B W (w1.setCell ⟨bp, k, none⟩ (.int .i64 at1)) := hb.setCell hL.out.ge.2.2.2.1 _
      replace hb := hb9
      clear hb9
      replace hbx := hbx.apart (o := k) hnb [.int .i64 at1]
      change ItB _ _ (w1.setCell ⟨bp, k, none⟩ (.int .i64 at1)) at hbx
      replace hL := hL.out.setP k at1 (fun j => if j < k + 1 then placeF F L j else R j) (fun j hj => by
        by_cases e : j = k
        · rw [if_pos e, e, if_pos (Nat.lt_succ_self k)]; exact hat.out
        · rw [if_neg e]
          by_cases e2 : j < k
          · rw [if_pos e2, if_pos (by omega)]
          · rw [if_neg e2, if_neg (by omega)])
      generalize World.setCell w1 _ _ = w2 at hL hbx hb ⊢
      have k0 : w2.cell? ⟨bx, 0, none⟩ = some (.int .i64 kind) := hbx.c 0 _ rfl
      go_upto_if 24 with fail
      clear k0
      go_cut [] (fun wx => LY B y bs bl bp bm (some ⟨ib, io, none⟩) n cap (c + (k + 1)) F L (fun j => if j < k + 1 then placeF F L j else R j) (labF F L m (k + 1)) wx ∧ Below B W wx)
      case first =>
        by_cases h2 : kind = 2
        · subst h2
          replace hM1 : Hid (labF F L m (k + 1) = fun x => if x = label then at1 else labF F L m k x) := Lib.hid (by rw [hM1.out]; simp)
          have hLd := hL.keep (Below.refl w2.heap.size w2).drew
          have hbd2 := hb.drew
          have hbxd := hbx.keep (Below.refl w2.heap.size w2).drew
          clear hb hbx
          replace hL := Lib.hid hL
          go_upto_region 6 with fail
          refine wp_region_held_drew (S := fun W' => W'.cell? ⟨y, 4, none⟩ = some (.map (some bm)) ∧ W'.cell? ⟨bx, 10, none⟩ = some (.int .i64 label)) hmk ⟨hLd.c4, hbxd.c 10 _ rfl⟩ (fun hHeld => ?_)
          generalize World.drew _ = w3 at hHeld hLd hbd2 hbxd ⊢
          refine wpAnyH_take (i := 0) (v := .pointer (some ⟨y, 0, none⟩)) rfl (by kernel_rfl) (by kernel_rfl) (by kernel_rfl) (fun _ _ _ h => h) (Or.inl ⟨by rfl, fun W _ => by kernel_rfl⟩) hHeld ?_
          try simp only [Act.put, List.getElem_toArray, List.getElem_cons_succ, List.getElem_cons_zero, List.setIfInBounds_toArray, List.set_cons_zero, List.set_cons_succ]
          refine wpAnyH_take (i := 1) (v := .pointer (some ⟨y, 0, none⟩)) rfl (by kernel_rfl) (by kernel_rfl) (by kernel_rfl) (fun _ _ _ h => h) (Or.inl ⟨by rfl, fun W _ => by kernel_rfl⟩) hHeld ?_
          try simp only [Act.put, List.getElem_toArray, List.getElem_cons_succ, List.getElem_cons_zero, List.setIfInBounds_toArray, List.set_cons_zero, List.set_cons_succ]
          refine wpAnyH_take (i := 2) (v := .pointer (some ⟨y, 4, none⟩)) rfl (by kernel_rfl) (by kernel_rfl) (by kernel_rfl) (fun _ _ _ h => h) (Or.inl ⟨by rfl, fun W _ => by kernel_rfl⟩) hHeld ?_
          try simp only [Act.put, List.getElem_toArray, List.getElem_cons_succ, List.getElem_cons_zero, List.setIfInBounds_toArray, List.set_cons_zero, List.set_cons_succ]
          refine wpAnyH_take (i := 3) (v := .map (some bm)) rfl (by kernel_rfl) (by kernel_rfl) (by kernel_rfl) (fun _ _ _ h => h) (Or.inl ⟨by rfl, fun W hS => by (have k4 := hS.1; go_simp)⟩) hHeld ?_
          try simp only [Act.put, List.getElem_toArray, List.getElem_cons_succ, List.getElem_cons_zero, List.setIfInBounds_toArray, List.set_cons_zero, List.set_cons_succ]
          refine wpAnyH_take (i := 4) (v := .pointer (some ⟨bx, 10, none⟩)) rfl (by kernel_rfl) (by kernel_rfl) (by kernel_rfl) (fun _ _ _ h => h) (Or.inl ⟨by rfl, fun W _ => by kernel_rfl⟩) hHeld ?_
          try simp only [Act.put, List.getElem_toArray, List.getElem_cons_succ, List.getElem_cons_zero, List.setIfInBounds_toArray, List.set_cons_zero, List.set_cons_succ]
          refine wpAnyH_take (i := 5) (v := .int .i64 label) rfl (by kernel_rfl) (by kernel_rfl) (by kernel_rfl) (fun _ _ _ h => h) (Or.inl ⟨by rfl, fun W hS => by (have k4 := hS.2; go_simp)⟩) hHeld ?_
          try simp only [Act.put, List.getElem_toArray, List.getElem_cons_succ, List.getElem_cons_zero, List.setIfInBounds_toArray, List.set_cons_zero, List.set_cons_succ]
          refine wpAnyH_take (i := 6) (v := .int .i64 at1) rfl (by kernel_rfl) (by kernel_rfl) (by kernel_rfl) (fun _ _ _ h => h) (Or.inl ⟨by rfl, fun W _ => by kernel_rfl⟩) hHeld ?_
          try simp only [Act.put, List.getElem_toArray, List.getElem_cons_succ, List.getElem_cons_zero, List.setIfInBounds_toArray, List.set_cons_zero, List.set_cons_succ]
          refine wpAnyH_ready (rs := [7]) (by kernel_rfl) (by simp) (AllReadyH.cons rfl (fun K hK2 => ?_) AllReadyH.nil)
          rw [if_pos (by rfl)]
          simp only [List.getElem_toArray, List.getElem_cons_succ, List.getElem_cons_zero]
          refine wp_setM _ _ _ 77 98 rfl label_keyed Tryz.underlying77 Tryz.underlying98 bm (c + k) _ rfl hLd.vm (by unfold maxLen; omega) label at1 rfl rfl hwl (WalkArith.wf_i64 (by omega)) ?_
          intro w4 hM4 hg4
          have hn3 := hLd.ne.2.2.1
          refine hK2.out _ _ ⟨hg4.cell hHeld.1 (fun e => hn3 (by injection e)), hg4.cell hHeld.2 (fun e => hnm (by injection e))⟩ (fun hHeld2 => ?_)
          clear hK2 K hHeld
          have hHeld := hHeld2
          clear hHeld2
          try simp only [Act.put, List.getElem_toArray, List.getElem_cons_succ, List.getElem_cons_zero, List.setIfInBounds_toArray, List.set_cons_zero, List.set_cons_succ]
          refine wpAnyH_done (by kernel_rfl) ?_ _
          go_wp2_with fail
          go_meet
          rw [hM1.out]
          exact ⟨hLd.setM hM4 hg4, hbd2.grown hg4 hLd.mark (fun j hj => by injection hj with hj; rw [← hj]; exact hLd.ge.2.2.2.2)⟩
        · have t2 : (kind == 2) = false := by simpa using h2
          have e : labF F L m (k + 1) = labF F L m k := by rw [hM1.out]; funext x; rw [if_neg (fun hh => h2 hh.1)]
          replace e := Lib.hid e
          clear hM1 h2
          replace hL := Lib.hid hL
          go_wp2_with fail
          go_meet
          rw [e.out]
          exact ⟨hL.out.setM (hL.out.vm.mono (by omega)) (World.grownBy.refl _ _), hb⟩
      case rest =>
        obtain ⟨hL, hb⟩ := hcut
        have hsz := hL.vs.c k hlt
        have hlo := hL.vl.c k hlt
        simp only [hit.out, hsv.out] at hsz
        simp only [hLk.out] at hlo
        have q1 := hL.c1
        have q2 := hL.c2
        have e1 : wrap64 (at1 + sz) = at1 + sz := IntWalk.wrap64_in _ ⟨by omega, by omega⟩
        have e2 : wrap64 (at1 + sz + 1) = at1 + sz + 1 := IntWalk.wrap64_in _ ⟨by omega, by omega⟩
        replace hL := Lib.hid hL
        clear hM1 hwl hLk hit hsv hat
        cases lk
        · go_wp2_with fail
          go_roundw
          case rel => exact ⟨k + 1, by omega, by rw [hP1.out]; simp, by go_num, hL.out, hb⟩
          case measure => simp [intOf]; omega
        · go_wp2_with fail
          go_roundw
          case rel => exact ⟨k + 1, by omega, by rw [hP1.out]; simp, by go_num, hL.out, hb⟩
          case measure => simp [intOf]; omega
    · obtain rfl : k = n := by omega
      go_wp2_with fail
      go_end0
      refine ⟨rfl, hL.congr (fun _ _ => rfl) (fun j hj => (if_pos hj).symm), hb⟩
end
end Go.Proofs.YtcgflnkgekkidaaGreatDoor
