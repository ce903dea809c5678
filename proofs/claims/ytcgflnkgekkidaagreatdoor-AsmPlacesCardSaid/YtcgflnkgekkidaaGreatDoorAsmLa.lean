/- The walks of a layout's methods: lay, way. Conditions: none. -/
import Derived.Test.YtcgflnkgekkidaaGreatDoorAsmLy
import Derived.OrdersHeld
import Derived.Deep.RegionHeld
import Derived.Deep.LoopGhost
import Derived.Deep.DeepCutAuto
import Derived.Deep.CutBlock
import Derived.Deep.QuietTactic
import Derived.BigQuiet
import Derived.WalkSmall
set_option linter.unusedSimpArgs false
set_option linter.unusedVariables false
namespace Go.Proofs.YtcgflnkgekkidaaGreatDoor
open Go.RowKit Go.Maps
theorem label_keyed : Go.Maps.Keyed Tryz.prog 98 := int_keyed Tryz.underlying98
/-- What is asked of items beside that they are numbers. -/
def FitF (F : Nat → ItemV) (n : Nat) : Prop := ∀ k, k < n → (F k).insn.op ≤ 9223372036854775807 ∧ (Lit.int .i64 (F k).label).wf = true
/-- A layout in memory: of items below a mark B, in blocks from the mark on. -/
structure LYS (B y bs bl bp bm : Nat) (ao : Option Addr) (n cap c : Nat) (F : Nat → ItemV) (S : Nat → Int) (L : Nat → Bool) (R : Nat → Int) (m : Int → Int) (W : World) : Prop where
  c0 : W.cell? ⟨y, 0, none⟩ = some (.slice ao n cap)
  c1 : W.cell? ⟨y, 1, none⟩ = some (.slice (some ⟨bs, 0, none⟩) n n)
  c2 : W.cell? ⟨y, 2, none⟩ = some (.slice (some ⟨bl, 0, none⟩) n n)
  c3 : W.cell? ⟨y, 3, none⟩ = some (.slice (some ⟨bp, 0, none⟩) n n)
  c4 : W.cell? ⟨y, 4, none⟩ = some (.map (some bm))
  it : ItemsB B W ao n F
  vs : VR bs n (fun k => .int .i64 (S k)) W
  vl : VR bl n (fun k => .bool (L k)) W
  vp : VR bp n (fun k => .int .i64 (R k)) W
  vm : MapAt 98 W bm c m
  ge : B ≤ y ∧ B ≤ bs ∧ B ≤ bl ∧ B ≤ bp ∧ B ≤ bm
  ne : y ≠ bl ∧ y ≠ bp ∧ y ≠ bm ∧ bs ≠ bl ∧ bs ≠ bp ∧ bs ≠ bm ∧ bl ≠ bp ∧ bl ≠ bm ∧ bp ≠ bm ∧ y ≠ bs
  lt : y < W.heap.size
section
variable {B y bs bl bp bm : Nat} {ao : Option Addr} {n cap c : Nat} {F : Nat → ItemV} {S : Nat → Int} {L : Nat → Bool} {R : Nat → Int} {m : Int → Int} {W W' : World}
theorem LYS.mark (h : LYS B y bs bl bp bm ao n cap c F S L R m W) : B ≤ W.heap.size := Nat.le_trans h.ge.1 (Nat.le_of_lt h.lt)
theorem LYS.keep (h : LYS B y bs bl bp bm ao n cap c F S L R m W) (hb : Below W.heap.size W W') : LYS B y bs bl bp bm ao n cap c F S L R m W' := by
  have k : ∀ j v, W.cell? ⟨y, j, none⟩ = some v → W'.cell? ⟨y, j, none⟩ = some v := fun j v hv => by rw [hb.cell (p := ⟨y, j, none⟩) h.lt]; exact hv
  exact ⟨k _ _ h.c0, k _ _ h.c1, k _ _ h.c2, k _ _ h.c3, k _ _ h.c4, h.it.keep (hb.mono h.mark), h.vs.keep hb, h.vl.keep hb, h.vp.keep hb, h.vm.keep hb, h.ge, h.ne, Nat.lt_of_lt_of_le h.lt hb.size⟩
theorem LYS.setP (h : LYS B y bs bl bp bm ao n cap c F S L R m W) (k : Nat) (v : Int) (R' : Nat → Int) (hR : ∀ j, j < n → R' j = if j = k then v else R j) : LYS B y bs bl bp bm ao n cap c F S L R' m (W.setCell ⟨bp, k, none⟩ (.int .i64 v)) := by
  obtain ⟨n1, n2, n3, n4, n5, n6, n7, n8, n9, n10⟩ := h.ne
  have hk : ∀ j u, W.cell? ⟨y, j, none⟩ = some u → (W.setCell ⟨bp, k, none⟩ (.int .i64 v)).cell? ⟨y, j, none⟩ = some u := fun j u hu => by
    rw [World.cell?_setCell_far W ⟨bp, k, none⟩ ⟨y, j, none⟩ _ (fun e => n2 e.symm)]; exact hu
  refine ⟨hk _ _ h.c0, hk _ _ h.c1, hk _ _ h.c2, hk _ _ h.c3, hk _ _ h.c4, h.it.keep ((Below.refl B W).setCell h.ge.2.2.2.1 _), h.vs.other _ _ (fun e => n5 e.symm), h.vl.other _ _ (fun e => n7 e.symm), h.vp.set k _ _ (fun j hj => ?_), h.vm.grown (grown_setCell _ _ _ _) (fun e => n9 (by injection e with e; exact e.symm)), h.ge, h.ne, by rw [World.size_setCell]; exact h.lt⟩
  rw [hR j hj]; split <;> rfl
theorem LYS.setL (h : LYS B y bs bl bp bm ao n cap c F S L R m W) (k : Nat) (v : Bool) (L' : Nat → Bool) (hR : ∀ j, j < n → L' j = if j = k then v else L j) : LYS B y bs bl bp bm ao n cap c F S L' R m (W.setCell ⟨bl, k, none⟩ (.bool v)) := by
  obtain ⟨n1, n2, n3, n4, n5, n6, n7, n8, n9, n10⟩ := h.ne
  have hk : ∀ j u, W.cell? ⟨y, j, none⟩ = some u → (W.setCell ⟨bl, k, none⟩ (.bool v)).cell? ⟨y, j, none⟩ = some u := fun j u hu => by
    rw [World.cell?_setCell_far W ⟨bl, k, none⟩ ⟨y, j, none⟩ _ (fun e => n1 e.symm)]; exact hu
  refine ⟨hk _ _ h.c0, hk _ _ h.c1, hk _ _ h.c2, hk _ _ h.c3, hk _ _ h.c4, h.it.keep ((Below.refl B W).setCell h.ge.2.2.1 _), h.vs.other _ _ (fun e => n4 e.symm), h.vl.set k _ _ (fun j hj => ?_), h.vp.other _ _ n7, h.vm.grown (grown_setCell _ _ _ _) (fun e => n8 (by injection e with e; exact e.symm)), h.ge, h.ne, by rw [World.size_setCell]; exact h.lt⟩
  rw [hR j hj]; split <;> rfl
theorem LYS.setM {c' : Nat} {m' : Int → Int} (h : LYS B y bs bl bp bm ao n cap c F S L R m W) (hm : MapAt 98 W' bm c' m') (hg : W.grownBy W' (some bm)) : LYS B y bs bl bp bm ao n cap c' F S L R m' W' := by
  obtain ⟨n1, n2, n3, n4, n5, n6, n7, n8, n9, n10⟩ := h.ne
  have hk : ∀ j u, W.cell? ⟨y, j, none⟩ = some u → W'.cell? ⟨y, j, none⟩ = some u := fun j u hu => hg.cell hu (fun e => n3 (by injection e))
  exact ⟨hk _ _ h.c0, hk _ _ h.c1, hk _ _ h.c2, hk _ _ h.c3, hk _ _ h.c4, h.it.keep ((Below.refl B W).grown hg h.mark (fun j hj => by injection hj with hj; rw [← hj]; exact h.ge.2.2.2.2)), h.vs.grown hg (fun e => n6 (by injection e)), h.vl.grown hg (fun e => n8 (by injection e)), h.vp.grown hg (fun e => n9 (by injection e)), hm, h.ge, h.ne, Nat.lt_of_lt_of_le h.lt hg.size⟩
theorem LYS.setS (h : LYS B y bs bl bp bm ao n cap c F S L R m W) (k : Nat) (v : Int) (S' : Nat → Int) (hR : ∀ j, j < n → S' j = if j = k then v else S j) : LYS B y bs bl bp bm ao n cap c F S' L R m (W.setCell ⟨bs, k, none⟩ (.int .i64 v)) := by
  obtain ⟨n1, n2, n3, n4, n5, n6, n7, n8, n9, n10⟩ := h.ne
  have hk : ∀ j u, W.cell? ⟨y, j, none⟩ = some u → (W.setCell ⟨bs, k, none⟩ (.int .i64 v)).cell? ⟨y, j, none⟩ = some u := fun j u hu => by
    rw [World.cell?_setCell_far W ⟨bs, k, none⟩ ⟨y, j, none⟩ _ (fun e => n10 e.symm)]; exact hu
  refine ⟨hk _ _ h.c0, hk _ _ h.c1, hk _ _ h.c2, hk _ _ h.c3, hk _ _ h.c4, h.it.keep ((Below.refl B W).setCell h.ge.2.1 _), h.vs.set k _ _ (fun j hj => ?_), h.vl.other _ _ n4, h.vp.other _ _ n5, h.vm.grown (grown_setCell _ _ _ _) (fun e => n6 (by injection e with e; exact e.symm)), h.ge, h.ne, by rw [World.size_setCell]; exact h.lt⟩
  rw [hR j hj]; split <;> rfl
theorem LYS.congrS {S' : Nat → Int} (h : LYS B y bs bl bp bm ao n cap c F S L R m W) (hS : ∀ k, k < n → S' k = S k) : LYS B y bs bl bp bm ao n cap c F S' L R m W :=
  ⟨h.c0, h.c1, h.c2, h.c3, h.c4, h.it, h.vs.congr fun k hk => by rw [hS k hk], h.vl, h.vp, h.vm, h.ge, h.ne, h.lt⟩
theorem LYS.congr {R' : Nat → Int} {L' : Nat → Bool} (h : LYS B y bs bl bp bm ao n cap c F S L R m W) (hL : ∀ k, k < n → L' k = L k) (hR : ∀ k, k < n → R' k = R k) : LYS B y bs bl bp bm ao n cap c F S L' R' m W :=
  ⟨h.c0, h.c1, h.c2, h.c3, h.c4, h.it, h.vs, h.vl.congr fun k hk => by rw [hL k hk], h.vp.congr fun k hk => by rw [hR k hk], h.vm, h.ge, h.ne, h.lt⟩
end
/-- A layout whose items' sizes are known. -/
abbrev LY (B y bs bl bp bm : Nat) (ao : Option Addr) (n cap c : Nat) (F : Nat → ItemV) (L : Nat → Bool) (R : Nat → Int) (m : Int → Int) (W : World) : Prop := LYS B y bs bl bp bm ao n cap c F (fun k => lenV (F k) false) L R m W
theorem bl_drewN {B : Nat} {a w : World} (h : Below B a w) (q : Nat) : Below B a (w.drewN q) := h.trans ⟨rfl, rfl, rfl, Nat.le_refl _, fun _ _ => rfl⟩
set_option maxRecDepth 100000 in
theorem MapAt.look {W : World} {t k : TypeId} {b c : Nat} {f : Int → Int} (h : MapAt k W b c f) (K : Go.Maps.Keyed Tryz.prog k) (ht : Tryz.prog.underlying t = some (.map k 3)) (hk : Tryz.prog.underlying k = some (.int .i64)) (x : Int) (hwk : (Lit.int .i64 x).wf = true) :
    (Instr.lookup t (.map (some b)) (.int .i64 x) false).run Tryz.prog W = .ok (.int .i64 (f x)) W := by
  obtain ⟨D, h1, h2, h3⟩ := h
  obtain ⟨v, hrun, hat, -⟩ := h1.lookup_int K ht (q := .i64) Tryz.underlying3 (by kernel_rfl) (keyOf_int_mk hk hwk)
  have e : (DataW.lit (Lit.int IntKind.i64 (f x)) : DataW Unit) = .lit (.int .i64 v) := (h3 x).symm.trans hat
  injection e with e
  injection e with _ e
  rw [hrun, e]
theorem MapAt.drewN {W : World} {k : TypeId} {b c : Nat} {f : Int → Int} (h : MapAt k W b c f) (q : Nat) : MapAt k (W.drewN q) b c f := h.keep (bl_drewN (Below.refl _ _) q)
section
attribute [local irreducible] lenV
set_option maxRecDepth 100000 in
set_option maxHeartbeats 8000000 in
/-- The way to item i's label. -/
theorem Way_any {B y bs bl bp bm : Nat} {ao : Option Addr} {n cap c : Nat} {F : Nat → ItemV} {L : Nat → Bool} {R : Nat → Int} {m : Int → Int} (W : World) (h : LY B y bs bl bp bm ao n cap c F L R m W) (hF : FitF F n) (k : Nat) (b : Int) (hk : k < n) (hn : n ≤ 16384)
    (hm : 0 ≤ m (F k).label ∧ m (F k).label ≤ 13 * n) (hR : 0 ≤ R k ∧ R k ≤ 13 * n) (hb0 : 0 ≤ b) (hb1 : b ≤ 1) :
    Calls Tryz.prog 74 #[.pointer (some ⟨y, 0, none⟩), .int .i64 k, .int .i64 b] W fun e w' => e = .returned (.int .i64 (4 * (m (F k).label - R k - b))) ∧ Below W.heap.size W w' := by
  obtain ⟨ib, io, rfl, hlt, hc⟩ := h.it (by omega)
  have hlab : W.cell? ⟨ib, io + k * 12 + 10, none⟩ = some (.int .i64 (F k).label) := hc k hk 10 _ rfl
  obtain ⟨-, hwl⟩ := hF k hk
  have hpl : W.cell? ⟨bp, k, none⟩ = some (.int .i64 (R k)) := h.vp.c k hk
  have h0 := h.c0
  have h3 := h.c3
  have h4 := h.c4
  have hM : Hid (∀ q x, (Lit.int .i64 x).wf = true → (Instr.lookup 77 (.map (some bm)) (.int .i64 x) false).run Tryz.prog (W.drewN q) = .ok (.int .i64 (m x)) (W.drewN q)) := Lib.hid fun q x hx => (h.vm.drewN q).look label_keyed Tryz.underlying77 Tryz.underlying98 x hx
  obtain ⟨lab, hlv⟩ : ∃ x, (F k).label = x := ⟨_, rfl⟩
  rw [hlv] at hlab hwl hm ⊢
  obtain ⟨to', hto⟩ : ∃ x, m lab = x := ⟨_, rfl⟩
  obtain ⟨fr, hfr⟩ : ∃ x, R k = x := ⟨_, rfl⟩
  have hlk : ∀ q, (Instr.lookup 77 (.map (some bm)) (.int .i64 lab) false).run Tryz.prog (W.drewN q) = .ok (.int .i64 to') (W.drewN q) := fun q => by rw [← hto]; exact hM.out q lab hwl
  rw [hto] at hm ⊢
  rw [hfr] at hR hpl ⊢
  have hk1 : (0 : Int) ≤ (k : Int) := by omega
  have hk2 : (k : Int) < (n : Int) := by omega
  have e1 : wrap64 (to' - fr) = to' - fr := IntWalk.wrap64_in _ ⟨by omega, by omega⟩
  have e2 : wrap64 (to' - fr - b) = to' - fr - b := IntWalk.wrap64_in _ ⟨by omega, by omega⟩
  have e3 : wrap64 (4 * (to' - fr - b)) = 4 * (to' - fr - b) := IntWalk.wrap64_in _ ⟨by omega, by omega⟩
  clear hc h hF hlv hfr hM hto hwl
  go_enter Tryz.func74, Tryz.ntmps74
  go_upto_region 1 with fail
  go_quiet (fail)
  go_wp2
  go_ret
  exact ⟨rfl, bl_drewN (Below.refl _ _) nq⟩
set_option maxRecDepth 100000 in
set_option maxHeartbeats 8000000 in
/-- The places are found. -/
theorem Lay_any {B y bs bl bp bm : Nat} {ao : Option Addr} {n cap c : Nat} {F : Nat → ItemV} {L : Nat → Bool} {R : Nat → Int} {m : Int → Int} (W : World) (h : LY B y bs bl bp bm ao n cap c F L R m W) (hF : FitF F n) (hn : n ≤ 16384) (hc : c ≤ 1000000000) :
    Calls Tryz.prog 72 #[.pointer (some ⟨y, 0, none⟩)] W fun e w' => e = .returned (.tuple #[]) ∧ LY B y bs bl bp bm ao n cap (c + n) F L (placeF F L) (labF F L m n) w' ∧ Below B W w' := by
  have hmk : Tryz.prog.follows .mixedOrders = true := by kernel_rfl
  replace hF := Lib.hid hF
  have h0 := h.c0
  go_enter Tryz.func72, Tryz.ntmps72
  go_wp2_with fail
  go_loopw [2, 10] (fun s2 s10 wr => ∃ k : Nat, k ≤ n ∧ s2 = .int .i64 (placeF F L k) ∧ s10 = .int .i64 k ∧ LY B y bs bl bp bm ao n cap (c + k) F L (fun j => if j < k then placeF F L j else R j) (labF F L m k) wr ∧ Below B W wr) (fun _ s10 _ => n - (intOf s10).toNat)
  case atStart => exact ⟨0, Nat.zero_le _, rfl, rfl, h.congr (fun _ _ => rfl) (fun _ _ => rfl), Below.refl _ _⟩
  case round =>
    obtain ⟨k, hk, rfl, rfl, hL, hb⟩ := hrel
    clear h h0
    by_cases hlt : k < n
    · obtain ⟨ib, io, rfl, hib, hcc⟩ := hL.it (by omega)
      have hR0 := Lib.hid (item_range (hcc k hlt))
      have hwl := (hF.out k hlt).2
      have hbd := placeF_bd F L k
      have hlb := lenV_bd (F k) false
      have hP1 : Hid (placeF F L (k + 1) = placeF F L k + lenV (F k) false + (if L k then 1 else 0)) := Lib.hid (by show placeF F L k + (lenV (F k) false + _) = _; omega)
      have hM1 : Hid (labF F L m (k + 1) = fun x => if (F k).kind = 2 ∧ x = (F k).label then placeF F L k else labF F L m k x) := Lib.hid rfl
      obtain ⟨it, hit⟩ : ∃ it, F k = it := ⟨_, rfl⟩
      rw [hit] at hR0 hwl hlb hP1 hM1
      obtain ⟨at1, hat⟩ : ∃ x, placeF F L k = x := ⟨_, rfl⟩
      rw [hat] at hbd hP1 hM1 ⊢
      obtain ⟨sz, hsv⟩ : ∃ x, lenV it false = x := ⟨_, rfl⟩
      rw [hsv] at hlb hP1
      obtain ⟨lk, hLk⟩ : ∃ x, L k = x := ⟨_, rfl⟩
      rw [hLk] at hP1
      obtain ⟨kind, insn, label, addr⟩ := it
      replace hit := Lib.hid hit
      replace hsv := Lib.hid hsv
      replace hat := Lib.hid hat
      replace hLk := Lib.hid hLk
      simp only at hwl hM1
      clear hcc
      have hk1 : (0 : Int) ≤ (k : Int) := by omega
      have hk2 : (k : Int) < (n : Int) := by omega
      have hk3 : decide ((k : Int) < (n : Int)) = true := decide_eq_true hk2
      have hpt := Lib.hid (ItB.put wr ⟨kind, insn, label, addr⟩ #[.int .i64 0, .int .i64 0, .int .i64 0, .int .i64 0, .int .i64 0, .int .i64 0, .bool false, .bool false, .int .i64 0, .int .i64 0, .int .i64 0, .int .u64 0] rfl 29)
      have hth := Lib.hid (fresh12 wr #[.int .i64 0, .int .i64 0, .int .i64 0, .int .i64 0, .int .i64 0, .int .i64 0, .bool false, .bool false, .int .i64 0, .int .i64 0, .int .i64 0, .int .u64 0] rfl 29)
      have hon := Lib.hid (ItemV.one ⟨kind, insn, label, addr⟩)
      go_upto_region 4 with (first | (refine wpList_load_mid rfl 29 _ rfl ib (io + k * 12) rfl _ _ hR0.out Tryz.underlying29 rfl (by kernel_rfl) ?_) | (refine wpList_store_mid rfl 29 _ _ rfl wr.heap.size 0 (ItemV.cells ⟨kind, insn, label, addr⟩) rfl rfl (fun j hj => hth.out j hj) (by kernel_rfl) hon.out ?_))
      replace hpt := hpt.out
      clear hth hon hR0
      generalize World.setCells _ wr.heap.size 0 _ = w1 at hpt ⊢
      obtain ⟨hbx, hb1⟩ := hpt
      have hnb : wr.heap.size ≠ bp := Nat.ne_of_gt hL.vp.lt
      have hnm : wr.heap.size ≠ bm := Nat.ne_of_gt hL.vm.lt
      replace hb := hb.trans (hb1.mono hL.mark)
      replace hL := hL.keep hb1
      clear hb1
      generalize wr.heap.size = bx at hbx hnb hnm ⊢
      have h3 := hL.c3
      have hpc := hL.vp.c k hlt
      have hpf := hL.vp.z k hlt
      replace hL := Lib.hid hL
      go_upto_region 5 with fail
      clear h3 hpc hpf
      have hb9 : Below B W (w1.setCell ⟨bp, k, none⟩ (.int .i64 at1)) := hb.setCell hL.out.ge.2.2.2.1 _
      replace hb := hb9
      clear hb9
      replace hbx := hbx.apart (o := k) hnb [.int .i64 at1]
      change ItB _ _ (w1.setCell ⟨bp, k, none⟩ (.int .i64 at1)) at hbx
      replace hL := hL.out.setP k at1 (fun j => if j < k + 1 then placeF F L j else R j) (fun j hj => by
        by_cases e : j = k
        · rw [if_pos e, e, if_pos (Nat.lt_succ_self k)]; exact hat.out
        · rw [if_neg e]
          by_cases e2 : j < k
          · rw [if_pos e2, if_pos (by omega)]
          · rw [if_neg e2, if_neg (by omega)])
      generalize World.setCell w1 _ _ = w2 at hL hbx hb ⊢
      have k0 : w2.cell? ⟨bx, 0, none⟩ = some (.int .i64 kind) := hbx.c 0 _ rfl
      go_upto_if 24 with fail
      clear k0
      go_cut [] (fun wx => LY B y bs bl bp bm (some ⟨ib, io, none⟩) n cap (c + (k + 1)) F L (fun j => if j < k + 1 then placeF F L j else R j) (labF F L m (k + 1)) wx ∧ Below B W wx)
      case first =>
        by_cases h2 : kind = 2
        · subst h2
          replace hM1 : Hid (labF F L m (k + 1) = fun x => if x = label then at1 else labF F L m k x) := Lib.hid (by rw [hM1.out]; simp)
          have hLd := hL.keep (Below.refl w2.heap.size w2).drew
          have hbd2 := hb.drew
          have hbxd := hbx.keep (Below.refl w2.heap.size w2).drew
          clear hb hbx
          replace hL := Lib.hid hL
          go_upto_region 6 with fail
          refine wp_region_held_drew (S := fun W' => W'.cell? ⟨y, 4, none⟩ = some (.map (some bm)) ∧ W'.cell? ⟨bx, 10, none⟩ = some (.int .i64 label)) hmk ⟨hLd.c4, hbxd.c 10 _ rfl⟩ (fun hHeld => ?_)
          generalize World.drew _ = w3 at hHeld hLd hbd2 hbxd ⊢
          refine wpAnyH_take (i := 0) (v := .pointer (some ⟨y, 0, none⟩)) rfl (by kernel_rfl) (by kernel_rfl) (by kernel_rfl) (fun _ _ _ h => h) (Or.inl ⟨by rfl, fun W _ => by kernel_rfl⟩) hHeld ?_
          try simp only [Act.put, List.getElem_toArray, List.getElem_cons_succ, List.getElem_cons_zero, List.setIfInBounds_toArray, List.set_cons_zero, List.set_cons_succ]
          refine wpAnyH_take (i := 1) (v := .pointer (some ⟨y, 0, none⟩)) rfl (by kernel_rfl) (by kernel_rfl) (by kernel_rfl) (fun _ _ _ h => h) (Or.inl ⟨by rfl, fun W _ => by kernel_rfl⟩) hHeld ?_
          try simp only [Act.put, List.getElem_toArray, List.getElem_cons_succ, List.getElem_cons_zero, List.setIfInBounds_toArray, List.set_cons_zero, List.set_cons_succ]
          refine wpAnyH_take (i := 2) (v := .pointer (some ⟨y, 4, none⟩)) rfl (by kernel_rfl) (by kernel_rfl) (by kernel_rfl) (fun _ _ _ h => h) (Or.inl ⟨by rfl, fun W _ => by kernel_rfl⟩) hHeld ?_
          try simp only [Act.put, List.getElem_toArray, List.getElem_cons_succ, List.getElem_cons_zero, List.setIfInBounds_toArray, List.set_cons_zero, List.set_cons_succ]
          refine wpAnyH_take (i := 3) (v := .map (some bm)) rfl (by kernel_rfl) (by kernel_rfl) (by kernel_rfl) (fun _ _ _ h => h) (Or.inl ⟨by rfl, fun W hS => by (have k4 := hS.1; go_simp)⟩) hHeld ?_
          try simp only [Act.put, List.getElem_toArray, List.getElem_cons_succ, List.getElem_cons_zero, List.setIfInBounds_toArray, List.set_cons_zero, List.set_cons_succ]
          refine wpAnyH_take (i := 4) (v := .pointer (some ⟨bx, 10, none⟩)) rfl (by kernel_rfl) (by kernel_rfl) (by kernel_rfl) (fun _ _ _ h => h) (Or.inl ⟨by rfl, fun W _ => by kernel_rfl⟩) hHeld ?_
          try simp only [Act.put, List.getElem_toArray, List.getElem_cons_succ, List.getElem_cons_zero, List.setIfInBounds_toArray, List.set_cons_zero, List.set_cons_succ]
          refine wpAnyH_take (i := 5) (v := .int .i64 label) rfl (by kernel_rfl) (by kernel_rfl) (by kernel_rfl) (fun _ _ _ h => h) (Or.inl ⟨by rfl, fun W hS => by (have k4 := hS.2; go_simp)⟩) hHeld ?_
          try simp only [Act.put, List.getElem_toArray, List.getElem_cons_succ, List.getElem_cons_zero, List.setIfInBounds_toArray, List.set_cons_zero, List.set_cons_succ]
          refine wpAnyH_take (i := 6) (v := .int .i64 at1) rfl (by kernel_rfl) (by kernel_rfl) (by kernel_rfl) (fun _ _ _ h => h) (Or.inl ⟨by rfl, fun W _ => by kernel_rfl⟩) hHeld ?_
          try simp only [Act.put, List.getElem_toArray, List.getElem_cons_succ, List.getElem_cons_zero, List.setIfInBounds_toArray, List.set_cons_zero, List.set_cons_succ]
          refine wpAnyH_ready (rs := [7]) (by kernel_rfl) (by simp) (AllReadyH.cons rfl (fun K hK2 => ?_) AllReadyH.nil)
          rw [if_pos (by rfl)]
          simp only [List.getElem_toArray, List.getElem_cons_succ, List.getElem_cons_zero]
          refine wp_setM _ _ _ 77 98 rfl label_keyed Tryz.underlying77 Tryz.underlying98 bm (c + k) _ rfl hLd.vm (by unfold maxLen; omega) label at1 rfl rfl hwl (WalkArith.wf_i64 (by omega)) ?_
          intro w4 hM4 hg4
          have hn3 := hLd.ne.2.2.1
          refine hK2.out _ _ ⟨hg4.cell hHeld.1 (fun e => hn3 (by injection e)), hg4.cell hHeld.2 (fun e => hnm (by injection e))⟩ (fun hHeld2 => ?_)
          clear hK2 K hHeld
          have hHeld := hHeld2
          clear hHeld2
          try simp only [Act.put, List.getElem_toArray, List.getElem_cons_succ, List.getElem_cons_zero, List.setIfInBounds_toArray, List.set_cons_zero, List.set_cons_succ]
          refine wpAnyH_done (by kernel_rfl) ?_ _
          go_wp2_with fail
          go_meet
          rw [hM1.out]
          exact ⟨hLd.setM hM4 hg4, hbd2.grown hg4 hLd.mark (fun j hj => by injection hj with hj; rw [← hj]; exact hLd.ge.2.2.2.2)⟩
        · have t2 : (kind == 2) = false := by simpa using h2
          have e : labF F L m (k + 1) = labF F L m k := by rw [hM1.out]; funext x; rw [if_neg (fun hh => h2 hh.1)]
          replace e := Lib.hid e
          clear hM1 h2
          replace hL := Lib.hid hL
          go_wp2_with fail
          go_meet
          rw [e.out]
          exact ⟨hL.out.setM (hL.out.vm.mono (by omega)) (World.grownBy.refl _ _), hb⟩
      case rest =>
        obtain ⟨hL, hb⟩ := hcut
        have hsz := hL.vs.c k hlt
        have hlo := hL.vl.c k hlt
        simp only [hit.out, hsv.out] at hsz
        simp only [hLk.out] at hlo
        have q1 := hL.c1
        have q2 := hL.c2
        have e1 : wrap64 (at1 + sz) = at1 + sz := IntWalk.wrap64_in _ ⟨by omega, by omega⟩
        have e2 : wrap64 (at1 + sz + 1) = at1 + sz + 1 := IntWalk.wrap64_in _ ⟨by omega, by omega⟩
        replace hL := Lib.hid hL
        clear hM1 hwl hLk hit hsv hat
        cases lk
        · go_wp2_with fail
          go_roundw
          case rel => exact ⟨k + 1, by omega, by rw [hP1.out]; simp, by go_num, hL.out, hb⟩
          case measure => simp [intOf]; omega
        · go_wp2_with fail
          go_roundw
          case rel => exact ⟨k + 1, by omega, by rw [hP1.out]; simp, by go_num, hL.out, hb⟩
          case measure => simp [intOf]; omega
    · obtain rfl : k = n := by omega
      go_wp2_with fail
      go_end0
      refine ⟨rfl, hL.congr (fun _ _ => rfl) (fun j hj => (if_pos hj).symm), hb⟩
end
end Go.Proofs.YtcgflnkgekkidaaGreatDoor
