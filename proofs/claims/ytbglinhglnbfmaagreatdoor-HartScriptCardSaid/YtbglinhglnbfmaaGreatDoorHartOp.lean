/- Two harts that are one compared; slices of instructions, numbers and truths in a world. A hart and an instruction that come by value, opened to their cells. A slice of instructions that comes by value, opened to its cells. Conditions: as each theorem says. -/
import Derived.Test.YtbglinhglnbfmaaGreatDoorHartMF
import Derived.Laws.StructEq
import Derived.Test.YtbglinhglnbfmaaGreatDoorHartBg
import Derived.OpenShut
import Derived.ChangeArms
import Derived.ChangeSlices
set_option linter.unusedVariables false
namespace Go.Proofs.YtbglinhglnbfmaaGreatDoor
open Go.RowKit
/-- A slice of instructions: its cells. -/
def InsnsAt (w : World) (ao : Option Addr) (n : Nat) (L : Nat → InsnV) : Prop := 0 < n → ∃ b off, ao = some ⟨b, off, none⟩ ∧ b < w.heap.size ∧ ∀ k, k < n → ∀ j, j < 9 → w.cell? ⟨b, off + k * 9 + j, none⟩ = (L k).cells[j]?
def NumsAt (w : World) (ao : Option Addr) (n : Nat) (F : Nat → BitVec 64) : Prop := 0 < n → ∃ b off, ao = some ⟨b, off, none⟩ ∧ b < w.heap.size ∧ ∀ k, k < n → w.cell? ⟨b, off + k, none⟩ = some (.int .u64 (un (F k)))
def BoolsAt (w : World) (ao : Option Addr) (n : Nat) (G : Nat → Bool) : Prop := 0 < n → ∃ b off, ao = some ⟨b, off, none⟩ ∧ b < w.heap.size ∧ ∀ k, k < n → w.cell? ⟨b, off + k, none⟩ = some (.bool (G k))
theorem InsnsAt.keep {w w' : World} {ao : Option Addr} {n : Nat} {L : Nat → InsnV} (h : InsnsAt w ao n L) (hb : Below w.heap.size w w') : InsnsAt w' ao n L := fun hn => by
  obtain ⟨b, off, e, hlt, hc⟩ := h hn
  exact ⟨b, off, e, Nat.lt_of_lt_of_le hlt hb.size, fun k hk j hj => by rw [hb.cell (p := ⟨b, off + k * 9 + j, none⟩) hlt]; exact hc k hk j hj⟩
theorem NumsAt.keep {w w' : World} {ao : Option Addr} {n : Nat} {F : Nat → BitVec 64} (h : NumsAt w ao n F) (hb : Below w.heap.size w w') : NumsAt w' ao n F := fun hn => by
  obtain ⟨b, off, e, hlt, hc⟩ := h hn
  exact ⟨b, off, e, Nat.lt_of_lt_of_le hlt hb.size, fun k hk => by rw [hb.cell (p := ⟨b, off + k, none⟩) hlt]; exact hc k hk⟩
theorem BoolsAt.keep {w w' : World} {ao : Option Addr} {n : Nat} {G : Nat → Bool} (h : BoolsAt w ao n G) (hb : Below w.heap.size w w') : BoolsAt w' ao n G := fun hn => by
  obtain ⟨b, off, e, hlt, hc⟩ := h hn
  exact ⟨b, off, e, Nat.lt_of_lt_of_le hlt hb.size, fun k hk => by rw [hb.cell (p := ⟨b, off + k, none⟩) hlt]; exact hc k hk⟩
theorem eqFields_true {P : Program} (d : Nat) (xs : Array Value) (w : World) : ∀ fs : List Field, (∀ f ∈ fs, ∃ v, (part f.type xs f.offset).run P w = .ok v w ∧ (Op.equalIn d f.type v v).run P w = .ok true w) → (Op.eqFields d xs xs fs).run P w = .ok true w
  | [], _ => by simp [Op.eqFields]
  | f :: fs, h => by
    obtain ⟨v, h1, h2⟩ := h f (by simp)
    have ih := eqFields_true d xs w fs fun g hg => h g (by simp [hg])
    unfold Op.eqFields
    simp only [Sem.run_bind, Sem.run_ite, h1, h2, Result.andThen_ok, Bool.not_true, Bool.false_eq_true, if_false, ih]
    split <;> rfl
theorem hartL_regs (h : HartV) : ((hartL h).toArray.extract 1 33) = (regL h.x).toArray := by
  apply Array.ext'
  apply List.ext_getElem?
  intro j
  rcases Nat.lt_or_ge j 32 with hj | hj
  · have e := hartL_at h (1 + j) (by omega)
    rw [hartCell_x h j hj] at e
    rw [Nat.add_comm] at e
    simp [regL_at h.x j hj, hj, e]
  · rw [List.getElem?_eq_none (by simp; omega), List.getElem?_eq_none (by simp [regL_len]; omega)]
set_option maxRecDepth 100000 in
theorem hart_equalIn (h : HartV) (w : World) : (Op.equalIn 10000 25 (.agg (hartL h).toArray) (.agg (hartL h).toArray)).run Tryz.prog w = .ok true w := by
  rw [run_equalIn_struct w 9999 25 _ _ (by kernel_rfl) (by kernel_rfl)]
  refine eqFields_true 9999 _ w _ fun f hf => ?_
  unfold Program.fieldsOf at hf
  rw [Tryz.underlying25] at hf
  simp only [List.mem_cons, List.not_mem_nil, or_false] at hf
  have hua := Tryz.underlying23
  have huu := Tryz.underlying22
  have hui := Tryz.underlying3
  rcases hf with rfl | rfl | rfl | rfl
  · refine ⟨.int .u64 (un h.pc), ?_, ?_⟩
    · simp [part, isAgg, run_underlying huu, hartL_at h 0 (by decide), hartCell]
    · rw [run_equalIn_int w 9998 22 .u64 .u64 _ _ huu]; simp
  · refine ⟨.agg (regL h.x).toArray, ?_, ?_⟩
    · have hs : ∀ w, (sizeOf 23).run Tryz.prog w = .ok 32 w := fun w => by kernel_rfl
      simp only [part, isAgg, Sem.run_bind, run_underlying hua, Result.andThen_ok, Sem.run_pure, if_true, hs]
      rw [show 1 + 32 = 33 from rfl, hartL_regs]
    · have := regs_equalIn 9997 h.x h.x w
      rw [show (9997 + 2 : Nat) = 9999 from rfl] at this
      rw [this]; simp
  · refine ⟨.int .i64 h.fin, ?_, ?_⟩
    · simp [part, isAgg, run_underlying hui, hartL_at h 33 (by decide), hartCell]
    · rw [run_equalIn_int w 9998 3 .i64 .i64 _ _ hui]; simp
  · refine ⟨.int .u64 (un h.code), ?_, ?_⟩
    · simp [part, isAgg, run_underlying huu, hartL_at h 34 (by decide), hartCell]
    · rw [run_equalIn_int w 9998 22 .u64 .u64 _ _ huu]; simp
theorem hart_neq (h : HartV) (w : World) : (binOp .neq 25 (.agg (hartL h).toArray) (.agg (hartL h).toArray)).run Tryz.prog w = .ok (.bool false) w := by
  rw [run_neq_struct, hart_equalIn]; rfl
/-- The walk's frame: both boxes hold one hart. -/
structure SF (w : World) (h : HartV) (A : Nat) (W : World) : Prop where
  ch : HC w.heap.size h W
  co : HC A h W
  th : W.there w.heap.size 0 35
  ta : W.there A 0 35
  bl : Below w.heap.size w W
  lt : w.heap.size < A
  sz : A < W.heap.size
theorem SF.keep {w W W' : World} {h : HartV} {A B : Nat} (hS : SF w h A W) (hB : A < B) (hb : Below B W W') : SF w h A W' :=
  ⟨hS.ch.keep (Nat.lt_trans hS.lt hB) hb, hS.co.keep hB hb, there_keep hS.th (Nat.lt_trans hS.lt hB) hb, there_keep hS.ta hB hb, hS.bl.trans (hb.mono (Nat.le_of_lt (Nat.lt_trans hS.lt hB))), hS.lt, Nat.lt_of_lt_of_le hS.sz hb.size⟩
theorem SF.kept {w W W' : World} {h : HartV} {A : Nat} (hS : SF w h A W) (hb : Below W.heap.size W W') : SF w h A W' := hS.keep hS.sz hb
theorem SF.drew {w W : World} {h : HartV} {A : Nat} (hS : SF w h A W) : SF w h A W.drew := hS.kept (Below.refl _ _).drew
/-- Behind the first Step: what it gave lies in a variable of its own. -/
structure SG (w : World) (h : HartV) (A X : Nat) (y : HartV) (W : World) : Prop where
  f : SF w h A W
  x : HC X y W
  la : A < X
  lx : X < W.heap.size
theorem SG.keep {w W W' : World} {h y : HartV} {A X B : Nat} (hS : SG w h A X y W) (hB : X < B) (hb : Below B W W') : SG w h A X y W' :=
  ⟨hS.f.keep (Nat.lt_trans hS.la hB) hb, hS.x.keep hB hb, hS.la, Nat.lt_of_lt_of_le hS.lx hb.size⟩
theorem SG.kept {w W W' : World} {h y : HartV} {A X : Nat} (hS : SG w h A X y W) (hb : Below W.heap.size W W') : SG w h A X y W' := hS.keep hS.lx hb
theorem SG.drew {w W : World} {h y : HartV} {A X : Nat} (hS : SG w h A X y W) : SG w h A X y W.drew := hS.kept (Below.refl _ _).drew
/-- While the two boxes are written anew: what lies in the two variables stays. -/
structure SH (w : World) (y : HartV) (A X Y : Nat) (W : World) : Prop where
  cx : HC X y W
  cy : HC Y y W
  th : W.there w.heap.size 0 35
  ta : W.there A 0 35
  bl : Below w.heap.size w W
  lt : w.heap.size < A
  la : A < X
  lb : A < Y
  sz : A < W.heap.size
theorem SH.of {w W : World} {h y : HartV} {A X Y : Nat} (hG : SG w h A X y W) (hY : HC Y y W) (lb : A < Y) : SH w y A X Y W := ⟨hG.x, hY, hG.f.th, hG.f.ta, hG.f.bl, hG.f.lt, hG.la, lb, hG.f.sz⟩
theorem HC.put {W : World} {X b : Nat} {y z : HartV} (hc : HC X y W) (hn : X ≠ b) : HC X y (World.setCells W b 0 (hartL z)) := fun j hj => by
  rw [World.cell?_setCells_out b (hartL z) 0 W ⟨X, j, none⟩ (fun e => absurd e hn)]; exact hc j hj
theorem SH.put {w W : World} {y z : HartV} {A X Y b : Nat} (hS : SH w y A X Y W) (hb : b = w.heap.size ∨ b = A) : SH w y A X Y (World.setCells W b 0 (hartL z)) := by
  have h1 := hS.lt
  have h2 := hS.la
  have h3 := hS.lb
  have hle : w.heap.size ≤ b := by omega
  have hbb := below_setCells hle (hartL z) 0 W (Below.refl w.heap.size W)
  exact ⟨hS.cx.put (by omega), hS.cy.put (by omega), World.there_setCells hS.th _ _ _, World.there_setCells hS.ta _ _ _, hS.bl.trans hbb, h1, h2, h3, Nat.lt_of_lt_of_le hS.sz hbb.size⟩
theorem SH.drew {w W : World} {y : HartV} {A X Y : Nat} (hS : SH w y A X Y W) (hX : X < W.heap.size) (hY : Y < W.heap.size) : SH w y A X Y W.drew := by
  have hb : Below W.heap.size W W.drew := (Below.refl _ _).drew
  exact ⟨hS.cx.keep hX hb, hS.cy.keep hY hb, there_keep hS.th (Nat.lt_trans hS.lt hS.sz) hb, there_keep hS.ta hS.sz hb, hS.bl.drew, hS.lt, hS.la, hS.lb, Nat.lt_of_lt_of_le hS.sz hb.size⟩
theorem there_keepN {a B n : Nat} {W W' : World} (hz : W.there a 0 n) (ha : a < B) (hb : Below B W W') : W'.there a 0 n := fun j hj => by
  rw [hb.cell (p := ⟨a, 0 + j, none⟩) ha, hb.frozen (p := ⟨a, 0 + j, none⟩) ha]; exact hz j hj
theorem put_hart {W : World} {X : Nat} (hz : W.there X 0 35) (hl : X < W.heap.size) (y : HartV) : Below X W (World.setCells W X 0 (hartL y)) ∧ HC X y (World.setCells W X 0 (hartL y)) ∧ X < (World.setCells W X 0 (hartL y)).heap.size ∧ (World.setCells W X 0 (hartL y)).there X 0 35 := by
  have hb := below_setCells (Nat.le_refl X) (hartL y) 0 W (Below.refl X W)
  exact ⟨hb, HC.of_range (World.rangeAt_setCells_same W X 0 (hartL y) (by rw [hartL_len]; exact hz)), Nat.lt_of_lt_of_le hl hb.size, World.there_setCells hz X 0 (hartL y)⟩
theorem insns_range {w W : World} {b o : Nat} {cs : Array Value} (hc : ∀ j, j < 9 → w.cell? ⟨b, o + j, none⟩ = cs[j]?) (h9 : cs.size = 9) (hl : b < w.heap.size) (hb : Below w.heap.size w W) : W.rangeAt b o cs.toList := fun j v hv => by
  have hj : j < 9 := by
    rcases Nat.lt_or_ge j 9 with hj | hj
    · exact hj
    · rw [List.getElem?_eq_none (by simpa [h9] using hj)] at hv; cases hv
  rw [hb.cell (p := ⟨b, o + j, none⟩) hl, hc j hj]
  simpa using hv
end Go.Proofs.YtbglinhglnbfmaaGreatDoor
namespace Go.Proofs.YtbglinhglnbfmaaGreatDoor
open Go.ChangeShapes Go.WideShapes Go.RowKit
theorem take_one {l : List Value} {o : Nat} {v : Value} (h : (l.drop o).take 1 = [v]) : l[o]? = some v := by
  have := congrArg (fun x => x[0]?) h
  simpa using this
theorem some_at {α : Type} {xs : List α} {k j : Nat} (hl : xs.length = k) (hj : j < k) : ∃ y, xs[j]? = some y := ⟨xs[j]'(by omega), List.getElem?_eq_getElem (by omega)⟩
theorem size_1 : Tryz.prog.cellsOf 22 = 1 := by kernel_rfl
theorem size_2 : Tryz.prog.cellsOf 3 = 1 := by kernel_rfl
theorem size_3 : Tryz.prog.cellsOf 4 = 1 := by kernel_rfl
theorem size_4 : Tryz.prog.cellsOf 23 = 32 := by kernel_rfl
theorem size_5 : Tryz.prog.cellsOf 25 = 35 := by kernel_rfl
theorem size_6 : Tryz.prog.cellsOf 27 = 9 := by kernel_rfl
theorem size_7 : Tryz.prog.cellsOf 2 = 1 := by kernel_rfl
section
variable {H : Type} {enc : TypeId × Value → H} {w : World} {base : Nat} {spare : Nat → Bool} {held : Bool}
set_option maxRecDepth 100000 in
theorem open_hart {r : Reach} {b0 : Nat} {v : Value} {d : DataW H} {p : List MemPlace} (hv : Value.okWide Tryz.prog w r b0 25 v) (h : DataW.Trod enc Tryz.prog w base spare held 25 v d p) :
    ∃ hh : HartV, v = .agg (hartArr hh) := by
  obtain ⟨cs, rfl, hsz⟩ := okWide_struct Tryz.underlying25 hv
  rw [size_5] at hsz
  obtain ⟨fuel, hf⟩ := h
  obtain ⟨xs, n, _, _, hl, hlen, hg⟩ := DataW.trod_struct Tryz.underlying25 hf
  obtain ⟨y0, e0⟩ := some_at hlen (show 0 < 4 by decide)
  obtain ⟨y1, e1⟩ := some_at hlen (show 1 < 4 by decide)
  obtain ⟨y2, e2⟩ := some_at hlen (show 2 < 4 by decide)
  obtain ⟨y3, e3⟩ := some_at hlen (show 3 < 4 by decide)
  have g0 : DataW.trod enc Tryz.prog w base spare held n 22 ((cs.toList.drop 0).take (Tryz.prog.cellsOf 22)) = some y0 := (hg 0 _ rfl).trans e0
  rw [size_1] at g0
  have g1 : DataW.trod enc Tryz.prog w base spare held n 23 ((cs.toList.drop 1).take (Tryz.prog.cellsOf 23)) = some y1 := (hg 1 _ rfl).trans e1
  rw [size_4] at g1
  have g2 : DataW.trod enc Tryz.prog w base spare held n 3 ((cs.toList.drop 33).take (Tryz.prog.cellsOf 3)) = some y2 := (hg 2 _ rfl).trans e2
  rw [size_2] at g2
  have g3 : DataW.trod enc Tryz.prog w base spare held n 22 ((cs.toList.drop 34).take (Tryz.prog.cellsOf 22)) = some y3 := (hg 3 _ rfl).trans e3
  rw [size_1] at g3
  obtain ⟨z0, q0, _, w0⟩ := DataW.trod_int Tryz.underlying22 g0
  obtain ⟨z2, q2, _, w2⟩ := DataW.trod_int Tryz.underlying3 g2
  obtain ⟨z3, q3, _, w3⟩ := DataW.trod_int Tryz.underlying22 g3
  obtain ⟨ys, m, _, _, _, hyl, hy⟩ := DataW.trod_array Tryz.underlying23 g1
  have key : ∀ i, ∃ z, i < 32 → cs.toList[1 + i]? = some (.int .u64 z) ∧ (Lit.int .u64 z).wf = true := fun i => by
    by_cases hi : i < 32
    · obtain ⟨y, ey⟩ := some_at hyl hi
      have gi := (hy i hi).trans ey
      simp only [size_1, Nat.mul_one] at gi
      obtain ⟨z, q, _, wz⟩ := DataW.trod_int Tryz.underlying22 gi
      refine ⟨z, fun _ => ⟨?_, wz⟩⟩
      have q1 := take_one q
      rw [List.getElem?_take_of_lt hi, List.getElem?_drop] at q1
      exact q1
    · exact ⟨0, fun hh => absurd hh hi⟩
  obtain ⟨f, hfz⟩ := Classical.skolem.1 key
  have q0 := take_one q0
  have q2 := take_one q2
  have q3 := take_one q3
  obtain ⟨x0, hx0⟩ := exists_un w0
  obtain ⟨x3, hx3⟩ := exists_un w3
  refine ⟨⟨x0, fun i => bv (f i), z2, x3⟩, congrArg Value.agg (Array.ext' (List.ext_getElem? fun j => ?_))⟩
  rcases Nat.lt_or_ge j 35 with hj | hj
  · have := hartArr_at ⟨x0, fun i => bv (f i), z2, x3⟩ j hj
    rw [← Array.getElem?_toList] at this
    rw [this]
    rcases (show j = 0 ∨ j = 33 ∨ j = 34 ∨ (1 ≤ j ∧ j ≤ 32) by omega) with rfl | rfl | rfl | ⟨h1, h2⟩
    · rw [q0, hx0]; rfl
    · rw [q2]; rfl
    · rw [q3, hx3]; rfl
    · obtain ⟨i, rfl⟩ : ∃ i, j = 1 + i := ⟨j - 1, by omega⟩
      obtain ⟨e, wz⟩ := hfz i (by omega)
      rw [e, hartCell_x _ i (by omega)]
      obtain ⟨x, hx⟩ := exists_un wz
      show some (Value.int .u64 (f i)) = some (.int .u64 (un (bv (f i))))
      rw [hx, bv_un]
  · rw [List.getElem?_eq_none (by simpa [hsz] using hj), List.getElem?_eq_none (by have := hartArr_size ⟨x0, fun i => bv (f i), z2, x3⟩; simp only [Array.length_toList]; omega)]
set_option maxRecDepth 100000 in
theorem open_insnL {fuel : Nat} {cs : Array Value} {x : DataW H × List MemPlace} (hsz : cs.size = 9) (hf : DataW.trod enc Tryz.prog w base spare held fuel 27 cs.toList = some x) :
    ∃ i : InsnV, cs = i.cells ∧ i.op ≤ 9223372036854775807 := by
  obtain ⟨xs, n, _, _, hl, hlen, hg⟩ := DataW.trod_struct Tryz.underlying27 hf
  obtain ⟨y0, e0⟩ := some_at hlen (show 0 < 9 by decide)
  have g0 : DataW.trod enc Tryz.prog w base spare held n 3 ((cs.toList.drop 0).take (Tryz.prog.cellsOf 3)) = some y0 := (hg 0 _ rfl).trans e0
  rw [size_2] at g0
  obtain ⟨y1, e1⟩ := some_at hlen (show 1 < 9 by decide)
  have g1 : DataW.trod enc Tryz.prog w base spare held n 3 ((cs.toList.drop 1).take (Tryz.prog.cellsOf 3)) = some y1 := (hg 1 _ rfl).trans e1
  rw [size_2] at g1
  obtain ⟨y2, e2⟩ := some_at hlen (show 2 < 9 by decide)
  have g2 : DataW.trod enc Tryz.prog w base spare held n 3 ((cs.toList.drop 2).take (Tryz.prog.cellsOf 3)) = some y2 := (hg 2 _ rfl).trans e2
  rw [size_2] at g2
  obtain ⟨y3, e3⟩ := some_at hlen (show 3 < 9 by decide)
  have g3 : DataW.trod enc Tryz.prog w base spare held n 3 ((cs.toList.drop 3).take (Tryz.prog.cellsOf 3)) = some y3 := (hg 3 _ rfl).trans e3
  rw [size_2] at g3
  obtain ⟨y4, e4⟩ := some_at hlen (show 4 < 9 by decide)
  have g4 : DataW.trod enc Tryz.prog w base spare held n 2 ((cs.toList.drop 4).take (Tryz.prog.cellsOf 2)) = some y4 := (hg 4 _ rfl).trans e4
  rw [size_7] at g4
  obtain ⟨y5, e5⟩ := some_at hlen (show 5 < 9 by decide)
  have g5 : DataW.trod enc Tryz.prog w base spare held n 4 ((cs.toList.drop 5).take (Tryz.prog.cellsOf 4)) = some y5 := (hg 5 _ rfl).trans e5
  rw [size_3] at g5
  obtain ⟨y6, e6⟩ := some_at hlen (show 6 < 9 by decide)
  have g6 : DataW.trod enc Tryz.prog w base spare held n 4 ((cs.toList.drop 6).take (Tryz.prog.cellsOf 4)) = some y6 := (hg 6 _ rfl).trans e6
  rw [size_3] at g6
  obtain ⟨y7, e7⟩ := some_at hlen (show 7 < 9 by decide)
  have g7 : DataW.trod enc Tryz.prog w base spare held n 3 ((cs.toList.drop 7).take (Tryz.prog.cellsOf 3)) = some y7 := (hg 7 _ rfl).trans e7
  rw [size_2] at g7
  obtain ⟨y8, e8⟩ := some_at hlen (show 8 < 9 by decide)
  have g8 : DataW.trod enc Tryz.prog w base spare held n 3 ((cs.toList.drop 8).take (Tryz.prog.cellsOf 3)) = some y8 := (hg 8 _ rfl).trans e8
  rw [size_2] at g8
  obtain ⟨z0, q0, _, w0⟩ := DataW.trod_int Tryz.underlying3 g0
  obtain ⟨z1, q1, _, w1⟩ := DataW.trod_int Tryz.underlying3 g1
  obtain ⟨z2, q2, _, w2⟩ := DataW.trod_int Tryz.underlying3 g2
  obtain ⟨z3, q3, _, w3⟩ := DataW.trod_int Tryz.underlying3 g3
  obtain ⟨z4, q4, _, w4⟩ := DataW.trod_int Tryz.underlying2 g4
  obtain ⟨z5, q5, _⟩ := DataW.trod_bool Tryz.underlying4 g5
  obtain ⟨z6, q6, _⟩ := DataW.trod_bool Tryz.underlying4 g6
  obtain ⟨z7, q7, _, w7⟩ := DataW.trod_int Tryz.underlying3 g7
  obtain ⟨z8, q8, _, w8⟩ := DataW.trod_int Tryz.underlying3 g8
  have q0 := take_one q0
  have q1 := take_one q1
  have q2 := take_one q2
  have q3 := take_one q3
  have q4 := take_one q4
  have q5 := take_one q5
  have q6 := take_one q6
  have q7 := take_one q7
  have q8 := take_one q8
  refine ⟨⟨z0, z1, z2, z3, z4, z5, z6, z7, z8⟩, Array.ext' (List.ext_getElem? fun j => ?_), (i64_bounds w0).2⟩
  rcases (show j = 0 ∨ j = 1 ∨ j = 2 ∨ j = 3 ∨ j = 4 ∨ j = 5 ∨ j = 6 ∨ j = 7 ∨ j = 8 ∨ 9 ≤ j by omega) with rfl | rfl | rfl | rfl | rfl | rfl | rfl | rfl | rfl | hj
  · exact q0
  · exact q1
  · exact q2
  · exact q3
  · exact q4
  · exact q5
  · exact q6
  · exact q7
  · exact q8
  · rw [List.getElem?_eq_none (by simpa [hsz] using hj), List.getElem?_eq_none (show (InsnV.cells ⟨z0, z1, z2, z3, z4, z5, z6, z7, z8⟩).toList.length ≤ j from hj)]
set_option maxRecDepth 100000 in
theorem open_insn {r : Reach} {b0 : Nat} {v : Value} {d : DataW H} {p : List MemPlace} (hv : Value.okWide Tryz.prog w r b0 27 v) (h : DataW.Trod enc Tryz.prog w base spare held 27 v d p) :
    ∃ i : InsnV, v = .agg i.cells ∧ i.op ≤ 9223372036854775807 := by
  obtain ⟨cs, rfl, hsz⟩ := okWide_struct Tryz.underlying27 hv
  rw [size_6] at hsz
  obtain ⟨fuel, hf⟩ := h
  obtain ⟨i, rfl, hi⟩ := open_insnL hsz hf
  exact ⟨i, rfl, hi⟩
end
end Go.Proofs.YtbglinhglnbfmaaGreatDoor
namespace Go.Proofs.YtbglinhglnbfmaaGreatDoor
open Go.ChangeShapes Go.WideShapes Go.RowKit
section
variable {H : Type} {enc : TypeId × Value → H} {w : World} {base : Nat} {spare : Nat → Bool} {held : Bool}
set_option maxRecDepth 100000 in
theorem open_insns {ao : Option Addr} {len cap : Nat} {d : DataW H} {p : List MemPlace} (h : DataW.Trod enc Tryz.prog w base spare held 46 (.slice ao len cap) d p) :
    ∃ L : Nat → InsnV, InsnsAt w ao len L ∧ ∀ k, (L k).op ≤ 9223372036854775807 := by
  obtain ⟨fuel, hf⟩ := h
  have hf : DataW.trod enc Tryz.prog w base spare held fuel 46 [.slice ao len cap] = some (d, p) := hf
  have hz : ((⟨0, 0, 0, 0, 0, false, false, 0, 0⟩ : InsnV).op) ≤ 9223372036854775807 := by decide
  rcases DataW.trod_slice Tryz.underlying46 hf with ⟨hcs, _⟩ | ⟨a, len', cap', elems, rest, n, _, hcs, _, _, _, _, hlen, hel, _⟩
  · simp at hcs
    obtain ⟨rfl, rfl, rfl⟩ := hcs
    exact ⟨fun _ => ⟨0, 0, 0, 0, 0, false, false, 0, 0⟩, fun hh => absurd hh (Nat.lt_irrefl 0), fun _ => hz⟩
  · simp at hcs
    obtain ⟨rfl, rfl, rfl⟩ := hcs
    rw [size_6] at hel
    have key : ∀ i, ∃ v : InsnV, v.op ≤ 9223372036854775807 ∧ (i < len → ∀ j, j < 9 → w.cell? ((a.add (i * 9)).add j) = v.cells[j]?) := fun i => by
      by_cases hi : i < len
      · obtain ⟨y, ey⟩ := some_at hlen hi
        have e1 := (hel i hi).trans ey
        rw [Option.bind_eq_some_iff] at e1
        obtain ⟨cs, hc1, hc2⟩ := e1
        obtain ⟨_, hl9, hcell⟩ := World.cells?_some hc1
        obtain ⟨v, hv, hop⟩ := open_insnL (cs := cs.toArray) (by simpa using hl9) hc2
        refine ⟨v, hop, fun _ j hj => ?_⟩
        rw [hcell j hj, ← hv]
        simp
      · exact ⟨⟨0, 0, 0, 0, 0, false, false, 0, 0⟩, hz, fun hh => absurd hh hi⟩
    obtain ⟨L, hL⟩ := Classical.skolem.1 key
    refine ⟨L, fun hn => ?_, fun k => (hL k).1⟩
    obtain ⟨b, off, spot⟩ := a
    have h00 : w.cell? ⟨b, off, spot⟩ = some (.int .i64 (L 0).op) := by
      have := (hL 0).2 hn 0 (by decide)
      simp only [Addr.add, Nat.zero_mul, if_true] at this
      exact this
    have hspot : spot = none := by simpa using World.cell?_spot h00
    subst hspot
    refine ⟨b, off, rfl, World.block_lt_of_cell? w _ h00, fun k hk j hj => ?_⟩
    have e := (hL k).2 hk j hj
    rw [Go.WideShapes.add_plain, Go.WideShapes.add_plain] at e
    exact e
theorem open_nums {ao : Option Addr} {len cap : Nat} {d : DataW H} {p : List MemPlace} (h : DataW.Trod enc Tryz.prog w base spare held 47 (.slice ao len cap) d p) :
    ∃ F : Nat → BitVec 64, NumsAt w ao len F := by
  obtain ⟨fuel, hf⟩ := h
  have hf : DataW.trod enc Tryz.prog w base spare held fuel 47 [.slice ao len cap] = some (d, p) := hf
  rcases open_ints Tryz.underlying47 Tryz.underlying22 (by kernel_rfl) hf with ⟨hcs, _⟩ | ⟨x, l, c, zs, hcs, _, hl, hm, hz, _, hcell, hwz⟩
  · simp at hcs
    obtain ⟨rfl, rfl, rfl⟩ := hcs
    exact ⟨fun _ => 0#64, fun hh => absurd hh (Nat.lt_irrefl 0)⟩
  · simp at hcs
    obtain ⟨rfl, rfl, rfl⟩ := hcs
    have hlz : len ≤ zs.length := by rw [hz]; split <;> omega
    refine ⟨fun k => bv (zs.getD k 0), fun hn => ?_⟩
    obtain ⟨b, off, rfl, hc⟩ := ints_at hcell (Nat.lt_of_lt_of_le hn hlz)
    refine ⟨b, off, rfl, World.block_lt_of_cell? w _ (hc 0 (by omega)), fun k hk => ?_⟩
    rw [hc k (by omega)]
    have hm : zs.getD k 0 ∈ zs := by
      have hk2 : k < zs.length := by omega
      simp [List.getD, hk2]
    obtain ⟨y, hy⟩ := exists_un (hwz _ hm)
    show some (Value.int .u64 (zs.getD k 0)) = some (.int .u64 (un (bv (zs.getD k 0))))
    rw [hy, bv_un]
theorem open_bools {ao : Option Addr} {len cap : Nat} {d : DataW H} {p : List MemPlace} (h : DataW.Trod enc Tryz.prog w base spare held 48 (.slice ao len cap) d p) :
    ∃ G : Nat → Bool, BoolsAt w ao len G := by
  obtain ⟨fuel, hf⟩ := h
  have hf : DataW.trod enc Tryz.prog w base spare held fuel 48 [.slice ao len cap] = some (d, p) := hf
  rcases DataW.trod_slice Tryz.underlying48 hf with ⟨hcs, _⟩ | ⟨a, len', cap', elems, rest, n, _, hcs, _, _, _, _, hlen, hel, _⟩
  · simp at hcs
    obtain ⟨rfl, rfl, rfl⟩ := hcs
    exact ⟨fun _ => false, fun hh => absurd hh (Nat.lt_irrefl 0)⟩
  · simp at hcs
    obtain ⟨rfl, rfl, rfl⟩ := hcs
    rw [size_3] at hel
    have key : ∀ i, ∃ v : Bool, i < len → w.cell? (a.add i) = some (.bool v) := fun i => by
      by_cases hi : i < len
      · obtain ⟨y, ey⟩ := some_at hlen hi
        have e1 := (hel i hi).trans ey
        rw [Option.bind_eq_some_iff, Nat.mul_one] at e1
        obtain ⟨cs, hc1, hc2⟩ := e1
        obtain ⟨v, rfl, _⟩ := DataW.trod_bool Tryz.underlying4 hc2
        exact ⟨v, fun _ => cell_of_cells?_one hc1⟩
      · exact ⟨false, fun hh => absurd hh hi⟩
    obtain ⟨G, hG⟩ := Classical.skolem.1 key
    refine ⟨G, fun hn => ?_⟩
    obtain ⟨b, off, spot⟩ := a
    have h00 : w.cell? ⟨b, off, spot⟩ = some (.bool (G 0)) := by
      have := hG 0 hn
      simpa [Addr.add] using this
    have hspot : spot = none := by simpa using World.cell?_spot h00
    subst hspot
    refine ⟨b, off, rfl, World.block_lt_of_cell? w _ h00, fun k hk => ?_⟩
    have e := hG k hk
    rw [Go.WideShapes.add_plain] at e
    exact e
end
end Go.Proofs.YtbglinhglnbfmaaGreatDoor
