/- The walk of asm.laid. Conditions: none. -/
import Derived.Test.YtcgflnkgekkidaaGreatDoorAsmB
set_option linter.unusedSimpArgs false
set_option linter.unusedVariables false
namespace Go.Proofs.YtcgflnkgekkidaaGreatDoor
open Go.RowKit Go.Maps
theorem Tryz.info_int1 : (Tryz.prog.info? 3).map (fun i => (i.zero, i.size, i.bytes)) = some (some (.int .i64 0), 1, 8) := by kernel_rfl
theorem Tryz.info_bool1 : (Tryz.prog.info? 4).map (fun i => (i.zero, i.size, i.bytes)) = some (some (.bool false), 1, 1) := by kernel_rfl
theorem made_cell (z : Value) (n k : Nat) (hk : k < n) : (madeCells #[z] n)[k]? = some z := by
  simp [madeCells, hk, Nat.mod_one]
theorem VR.made (w : World) (z : Value) (n : Nat) (t : TypeId) : VR w.heap.size n (fun _ => z) (w.alloc (.cells (madeCells #[z] n) t)) :=
  ⟨fun k hk => by rw [World.cell?_alloc_new]; exact made_cell z n k hk, fun k hk => fresh_thawR _ _ _ _, by simp⟩
theorem VR.madeAt (w : World) (b : Nat) (hb : b = w.heap.size) (z : Value) (n : Nat) (t : TypeId) : VR b n (fun _ => z) (w.alloc (.cells (madeCells #[z] n) t)) := by rw [hb]; exact VR.made w z n t
theorem VR.al {w : World} {b n : Nat} {f : Nat → Value} (o : Obj) (h : VR b n f w) : VR b n f (w.alloc o) := h.keep ((Below.refl _ _).alloc (Nat.le_refl _) _)
theorem MapAt.madeAt (t : TypeId) (w : World) (b : Nat) (hb : b = w.heap.size) : MapAt t (w.alloc (.map #[] 0)) b 0 (fun _ => 0) := by rw [hb]; exact MapAt.made t w
theorem MapAt.al {t : TypeId} {w : World} {b c : Nat} {f : Int → Int} (o : Obj) (h : MapAt t w b c f) : MapAt t (w.alloc o) b c f := h.keep ((Below.refl _ _).alloc (Nat.le_refl _) _)
theorem bl_al {w W : World} (o : Obj) (h : Below w.heap.size w W) : Below w.heap.size w (W.alloc o) := h.alloc h.size o
theorem own_keep {w w' : World} {base : Nat} {e : TypeId} {size : Nat} {v : Value} {n : Nat} {xs : List Value} (h : w.ownsRow base e size v n xs) (hb : Below w.heap.size w w') : w'.ownsRow base e size v n xs := h.kept (below_grown hb) (by cases v.ownBlock <;> simp)
theorem moreF_no {p : Nat → Bool} {k : Nat} (h : p k = false) : moreF p (k + 1) = moreF p k := by
  show moreF p k ++ (if p k = true then _ else _) = _
  rw [h]; simp
theorem moreF_yes {p : Nat → Bool} {k : Nat} (h : p k = true) : moreF p (k + 1) = moreF p k ++ [(k : Int)] := by
  show moreF p k ++ (if p k = true then _ else _) = _
  rw [h]; simp
theorem more_all (p : Nat → Bool) {k x : Nat} (hx : x < k) : decide ((x : Int) ∈ moreF p k) = p x := by
  rw [Bool.eq_iff_iff, decide_eq_true_eq, moreF_mem]
  constructor
  · rintro ⟨j, _, hp, e⟩
    have : x = j := by omega
    rw [this]; exact hp
  · intro h; exact ⟨x, hx, h, rfl⟩
theorem take_mem (l : List Int) (j q x : Nat) (h : l[j]? = some (q : Int)) : decide ((x : Int) ∈ l.take (j + 1)) = (decide (x = q) || decide ((x : Int) ∈ l.take j)) := by
  rw [Bool.eq_iff_iff, Bool.or_eq_true_iff, decide_eq_true_eq, decide_eq_true_eq, decide_eq_true_eq, List.take_add_one, h, List.mem_append]
  simp only [Option.toList_some, List.mem_singleton]
  constructor
  · rintro (h | h)
    · exact .inr h
    · exact .inl (by omega)
  · rintro (h | h)
    · exact .inr (by omega)
    · exact .inl h
/-- The new layout. -/
theorem lay_new {w W4 : World} {bs bl bp bm n cap : Nat} {ao : Option Addr} {F : Nat → ItemV} {y : Nat} {W : World} (hy : y = W4.heap.size) (hW : W = (W4.alloc (.cells #[.slice ao n cap, .slice (some ⟨bs, 0, none⟩) n n, .slice (some ⟨bl, 0, none⟩) n n, .slice (some ⟨bp, 0, none⟩) n n, .map (some bm)] 79)).drew)
    (hI : ItemsAt w ao n F) (hb : Below w.heap.size w W4) (h1 : VR bs n (fun _ => .int .i64 0) W4) (h2 : VR bl n (fun _ => .bool false) W4) (h3 : VR bp n (fun _ => .int .i64 0) W4) (h4 : MapAt 98 W4 bm 0 (fun _ => 0))
    (hge : w.heap.size ≤ bs ∧ w.heap.size ≤ bl ∧ w.heap.size ≤ bp ∧ w.heap.size ≤ bm) (hne : bs ≠ bl ∧ bs ≠ bp ∧ bs ≠ bm ∧ bl ≠ bp ∧ bl ≠ bm ∧ bp ≠ bm) :
    LYS w.heap.size y bs bl bp bm ao n cap 0 F (fun _ => 0) (fun _ => false) (fun _ => 0) (fun _ => 0) W ∧ Below w.heap.size w W := by
  subst hy
  subst hW
  have l1 := h1.lt
  have l2 := h2.lt
  have l3 := h3.lt
  have l4 := h4.lt
  have hsz := hb.size
  have hkk := (Below.refl W4.heap.size W4).alloc (Nat.le_refl _) (.cells #[.slice ao n cap, .slice (some ⟨bs, 0, none⟩) n n, .slice (some ⟨bl, 0, none⟩) n n, .slice (some ⟨bp, 0, none⟩) n n, .map (some bm)] 79)
  have hc : ∀ j v, (#[.slice ao n cap, .slice (some ⟨bs, 0, none⟩) n n, .slice (some ⟨bl, 0, none⟩) n n, .slice (some ⟨bp, 0, none⟩) n n, .map (some bm)] : Array Value)[j]? = some v → (W4.alloc (.cells #[.slice ao n cap, .slice (some ⟨bs, 0, none⟩) n n, .slice (some ⟨bl, 0, none⟩) n n, .slice (some ⟨bp, 0, none⟩) n n, .map (some bm)] 79)).drew.cell? ⟨W4.heap.size, j, none⟩ = some v := fun j v hv => (World.cell?_alloc_new _ _ _ j).trans hv
  refine ⟨⟨hc 0 _ rfl, hc 1 _ rfl, hc 2 _ rfl, hc 3 _ rfl, hc 4 _ rfl, hI.b.keep ((hb.alloc hsz _).drew), h1.keep hkk.drew, h2.keep hkk.drew, h3.keep hkk.drew, h4.keep hkk.drew, ⟨hsz, hge⟩, ⟨by omega, by omega, by omega, hne.1, hne.2.1, hne.2.2.1, hne.2.2.2.1, hne.2.2.2.2.1, hne.2.2.2.2.2, by omega⟩, ?_⟩, (hb.alloc hsz _).drew⟩
  show W4.heap.size < (W4.alloc _).heap.size
  simp
set_option maxRecDepth 100000 in
set_option maxHeartbeats 16000000 in
theorem Laid_any (ao : Option Addr) (n cap : Nat) (F : Nat → ItemV) (w : World) (hI : ItemsAt w ao n F) (hF : FitF F n) (hn : n ≤ 16384) :
    Calls Tryz.prog 40 #[.slice ao n cap] w fun e w' => (∃ y bs bl bp bm c, e = .returned (.tuple #[.pointer (some ⟨y, 0, none⟩), .int .i64 0]) ∧ LY w.heap.size y bs bl bp bm ao n cap c F (longV F n) (placeF F (longV F n)) (labV F (longV F n) n) w') ∧ Below w.heap.size w w' := by
  have hmk : Tryz.prog.follows .mixedOrders = true := by kernel_rfl
  obtain ⟨i1, hi1, hz1, hs1, hb1⟩ := info_parts Tryz.info_int1
  obtain ⟨i2, hi2, hz2, hs2, hb2⟩ := info_parts Tryz.info_bool1
  have hmi : ∀ W : World, (Instr.makeSlice 32 (.int .i64 (n : Int)) (.int .i64 (n : Int))).run Tryz.prog W = .ok (.slice (some ⟨W.heap.size, 0, none⟩) n n) (W.alloc (.cells (madeCells #[.int .i64 0] n) 3)) := fun W => by
    have := run_make (P := Tryz.prog) W 32 3 i1 _ Tryz.underlying32 hi1 hz1 .i64 .i64 n n (by omega) (Int.le_refl _) (by rw [hb1]; omega) (by omega)
    rw [hs1, Nat.mul_one, Int.toNat_natCast] at this; exact this
  have hmb : ∀ W : World, (Instr.makeSlice 53 (.int .i64 (n : Int)) (.int .i64 (n : Int))).run Tryz.prog W = .ok (.slice (some ⟨W.heap.size, 0, none⟩) n n) (W.alloc (.cells (madeCells #[.bool false] n) 4)) := fun W => by
    have := run_make (P := Tryz.prog) W 53 4 i2 _ Tryz.underlying53 hi2 hz2 .i64 .i64 n n (by omega) (Int.le_refl _) (by rw [hb2]; omega) (by omega)
    rw [hs2, Nat.mul_one, Int.toNat_natCast] at this; exact this
  replace hi1 := Lib.hid hi1
  replace hz1 := Lib.hid hz1
  replace hs1 := Lib.hid hs1
  replace hb1 := Lib.hid hb1
  clear hi2 hz2 hs2 hb2
  have hmm := @run_makeMap Tryz.prog
  replace hI := Lib.hid hI
  replace hF := Lib.hid hF
  go_enter Tryz.func40, Tryz.ntmps40
  go_upto_region 1 with fail
  refine wp_scope_straight ?_
  refine wp_seq_k fun K hK => ?_
  go_cut [4] (fun s4 wx => ∃ y bs bl bp bm, s4 = .pointer (some ⟨y, 0, none⟩) ∧ LYS w.heap.size y bs bl bp bm ao n cap 0 F (fun _ => 0) (fun _ => false) (fun _ => 0) (fun _ => 0) wx ∧ Below w.heap.size w wx)
  case first =>
    go_region_held (fun W' => True) (trivial) (fail)
    all_goals
      go_wp2_with fail
      go_meet
      refine ⟨_, _, _, _, _, rfl, lay_new (bs := _) (bl := _) (bp := _) (bm := _) ?h0 rfl hI.out ?h5 ?h1 ?h2 ?h3 ?h4 ?h6 ?h7⟩
      case h0 => simp
      case h5 => repeat (first | exact Below.refl _ _ | refine bl_al _ ?_)
      case h1 => repeat (first | (refine VR.madeAt _ _ ?_ _ _ _; (simp; done)) | refine VR.al _ ?_)
      case h2 => repeat (first | (refine VR.madeAt _ _ ?_ _ _ _; (simp; done)) | refine VR.al _ ?_)
      case h3 => repeat (first | (refine VR.madeAt _ _ ?_ _ _ _; (simp; done)) | refine VR.al _ ?_)
      case h4 => repeat (first | (refine MapAt.madeAt _ _ _ ?_; (simp; done)) | refine MapAt.al _ ?_)
      case h6 => refine ⟨?_, ?_, ?_, ?_⟩ <;> omega
      case h7 => refine ⟨?_, ?_, ?_, ?_, ?_, ?_⟩ <;> omega
  case rest =>
    obtain ⟨y, bs, bl, bp, bm, rfl, hL, hb⟩ := hcut
    clear hmi hmb hmm hI
    go_wp2_with fail
    go_loopw [30] (fun s30 wr => ∃ k : Nat, k ≤ n ∧ s30 = .int .i64 k ∧ LYS w.heap.size y bs bl bp bm ao n cap 0 F (fun j => if j < k then lenV (F j) false else 0) (fun _ => false) (fun _ => 0) (fun _ => 0) wr ∧ Below w.heap.size w wr) (fun s30 _ => n - (intOf s30).toNat)
    case atStart => exact ⟨0, Nat.zero_le _, rfl, hL, hb⟩
    case round =>
      clear hL hb
      obtain ⟨k, hk, rfl, hL, hb⟩ := hrel
      by_cases hlt : k < n
      · obtain ⟨ib, io, rfl, hib, hcc⟩ := hL.it (by omega)
        have hR0 := Lib.hid (item_range (hcc k hlt))
        have hlen : Hid (∀ W, Calls Tryz.prog 55 #[.agg (F k).cells, .bool false] W fun e w' => e = .returned (.int .i64 (lenV (F k) false)) ∧ Below W.heap.size W w') := Lib.hid fun W => Length_any (F k) false W
        have hsv : Hid (∀ x, lenV (F k) false = x → ∀ j, j < n → (if j < k + 1 then lenV (F j) false else 0) = if j = k then x else if j < k then lenV (F j) false else 0) := Lib.hid fun x hx j hj => by
          by_cases e : j = k
          · rw [if_pos e, e, if_pos (Nat.lt_succ_self k)]; exact hx
          · rw [if_neg e]
            by_cases e2 : j < k
            · rw [if_pos e2, if_pos (by omega)]
            · rw [if_neg e2, if_neg (by omega)]
        obtain ⟨sz, hszv⟩ : ∃ x, lenV (F k) false = x := ⟨_, rfl⟩
        replace hsv := Lib.hid (hsv.out sz hszv)
        rw [hszv] at hlen
        clear hszv
        generalize F k = it at hR0 hlen
        clear hcc
        have hk1 : (0 : Int) ≤ (k : Int) := by omega
        have hk2 : (k : Int) < (n : Int) := by omega
        have hk3 : decide ((k : Int) < (n : Int)) = true := decide_eq_true hk2
        have hpt := Lib.hid (ItB.put wr it #[.int .i64 0, .int .i64 0, .int .i64 0, .int .i64 0, .int .i64 0, .int .i64 0, .bool false, .bool false, .int .i64 0, .int .i64 0, .int .i64 0, .int .u64 0] rfl 29)
        have hth := Lib.hid (fresh12 wr #[.int .i64 0, .int .i64 0, .int .i64 0, .int .i64 0, .int .i64 0, .int .i64 0, .bool false, .bool false, .int .i64 0, .int .i64 0, .int .i64 0, .int .u64 0] rfl 29)
        have hon := Lib.hid (ItemV.one it)
        have hsz9 : Hid ((Tryz.prog.info? 29).map (·.size) = some it.cells.toList.length) := Lib.hid (by rw [show it.cells.toList.length = 12 from rfl]; kernel_rfl)
        go_upto_region 5 with (first | (refine wpList_load_mid rfl 29 _ rfl ib (io + k * 12) rfl _ _ hR0.out Tryz.underlying29 rfl hsz9.out ?_) | (refine wpList_store_mid rfl 29 _ _ rfl wr.heap.size 0 (ItemV.cells it) rfl rfl (fun j hj => hth.out j hj) (by kernel_rfl) hon.out ?_))
        replace hpt := hpt.out
        clear hth hon hR0
        generalize World.setCells _ wr.heap.size 0 _ = w1 at hpt ⊢
        obtain ⟨hbx, hb1⟩ := hpt
        have hnb : wr.heap.size ≠ bs := Nat.ne_of_gt hL.vs.lt
        replace hb := hb.trans (hb1.mono hb.size)
        replace hL := hL.keep hb1
        clear hb1
        generalize wr.heap.size = bx at hbx hnb ⊢
        have hui := Tryz.underlying29
        have hrb : w1.rangeAt bx 0 it.cells.toList := fun j v hv => by rw [Nat.zero_add]; exact hbx.c j v (by simpa using hv)
        have hLd := hL.keep (Below.refl w1.heap.size w1).drew
        have hbd := hb.drew
        have hblt := hbx.lt
        have hc1 := hL.c1
        clear hL hb hbx
        replace hLd := Lib.hid hLd
        refine wp_region_held_drew (S := fun W' => W'.cell? ⟨y, 1, none⟩ = some (.slice (some ⟨bs, 0, none⟩) n n) ∧ W'.rangeAt bx 0 it.cells.toList) hmk ⟨hc1, hrb⟩ (fun hHeld => ?_)
        clear hc1 hrb
        have hbl2 : bx < w1.drew.heap.size := hblt
        have hyl2 := hLd.out.lt
        clear hblt
        generalize World.drew _ = w2 at hHeld hLd hbd hbl2 hyl2 ⊢
        refine wpAnyH_take (i := 0) (v := .pointer (some ⟨y, 0, none⟩)) rfl (by kernel_rfl) (by kernel_rfl) (by kernel_rfl) (fun _ _ _ h => h) (Or.inl ⟨by rfl, fun W _ => by kernel_rfl⟩) hHeld ?_
        try simp only [Act.put, List.getElem_toArray, List.getElem_cons_succ, List.getElem_cons_zero, List.setIfInBounds_toArray, List.set_cons_zero, List.set_cons_succ]
        refine wpAnyH_take (i := 1) (v := .pointer (some ⟨y, 0, none⟩)) rfl (by kernel_rfl) (by kernel_rfl) (by kernel_rfl) (fun _ _ _ h => h) (Or.inl ⟨by rfl, fun W _ => by kernel_rfl⟩) hHeld ?_
        try simp only [Act.put, List.getElem_toArray, List.getElem_cons_succ, List.getElem_cons_zero, List.setIfInBounds_toArray, List.set_cons_zero, List.set_cons_succ]
        refine wpAnyH_take (i := 2) (v := .pointer (some ⟨y, 1, none⟩)) rfl (by kernel_rfl) (by kernel_rfl) (by kernel_rfl) (fun _ _ _ h => h) (Or.inl ⟨by rfl, fun W _ => by kernel_rfl⟩) hHeld ?_
        try simp only [Act.put, List.getElem_toArray, List.getElem_cons_succ, List.getElem_cons_zero, List.setIfInBounds_toArray, List.set_cons_zero, List.set_cons_succ]
        refine wpAnyH_take (i := 3) (v := .slice (some ⟨bs, 0, none⟩) n n) rfl (by kernel_rfl) (by kernel_rfl) (by kernel_rfl) (fun _ _ _ h => h) (Or.inl ⟨by rfl, fun W hS => by (have k4 := hS.1; go_simp)⟩) hHeld ?_
        try simp only [Act.put, List.getElem_toArray, List.getElem_cons_succ, List.getElem_cons_zero, List.setIfInBounds_toArray, List.set_cons_zero, List.set_cons_succ]
        refine wpAnyH_take (i := 4) (v := .int .i64 k) rfl (by kernel_rfl) (by kernel_rfl) (by kernel_rfl) (fun _ _ _ h => h) (Or.inl ⟨by rfl, fun W _ => by kernel_rfl⟩) hHeld ?_
        try simp only [Act.put, List.getElem_toArray, List.getElem_cons_succ, List.getElem_cons_zero, List.setIfInBounds_toArray, List.set_cons_zero, List.set_cons_succ]
        refine wpAnyH_take (i := 5) rfl (by kernel_rfl) (by kernel_rfl) (by kernel_rfl) (fun _ _ _ h => h) (yieldsIf_load_mid (by rfl) _ _ rfl bx 0 rfl it.cells.toList _ (fun W hS => hS.2) hui rfl hsz9.out) hHeld ?_
        try simp only [Act.put, List.getElem_toArray, List.getElem_cons_succ, List.getElem_cons_zero, List.setIfInBounds_toArray, List.set_cons_zero, List.set_cons_succ]
        refine wpAnyH_ready (rs := [6]) (by kernel_rfl) (by simp) (AllReadyH.cons rfl (fun K hK2 => ?_) AllReadyH.nil)
        rw [if_pos (by rfl)]
        simp only [List.getElem_toArray, List.getElem_cons_succ, List.getElem_cons_zero]
        go_wp2_with (go_at_call 55; (with_reducible refine (hlen.out _).mono ?_); rintro e w3 ⟨rfl, hb3⟩)
        replace hLd := Lib.hid (hLd.out.keep hb3)
        replace hbd := hbd.trans (hb3.mono hbd.size)
        refine hK2.out _ _ ⟨by rw [hb3.cell (p := ⟨y, 1, none⟩) hyl2]; exact hHeld.1, fun j v hv => by rw [hb3.cell (p := ⟨bx, 0 + j, none⟩) hbl2]; exact hHeld.2 j v hv⟩ (fun hHeld2 => ?_)
        clear hK2 K hHeld
        have hHeld := hHeld2
        clear hHeld2 hb3 hbl2 hyl2 hlen
        try simp only [Act.put, List.getElem_toArray, List.getElem_cons_succ, List.getElem_cons_zero, List.setIfInBounds_toArray, List.set_cons_zero, List.set_cons_succ]
        refine wpAnyH_take (i := 7) (v := .pointer (some ⟨bs, k, none⟩)) rfl (by kernel_rfl) (by kernel_rfl) (by kernel_rfl) (fun _ _ _ h => h) (Or.inl ⟨by rfl, fun W _ => by go_simp⟩) hHeld ?_
        try simp only [Act.put, List.getElem_toArray, List.getElem_cons_succ, List.getElem_cons_zero, List.setIfInBounds_toArray, List.set_cons_zero, List.set_cons_succ]
        refine wpAnyH_ready (rs := [8]) (by kernel_rfl) (by simp) (AllReadyH.cons rfl (fun K hK2 => ?_) AllReadyH.nil)
        rw [if_pos (by rfl)]
        simp only [List.getElem_toArray, List.getElem_cons_succ, List.getElem_cons_zero]
        have cj : _ = some (Value.int .i64 (if k < k then lenV (F k) false else 0)) := hLd.out.vs.c k hlt
        have fj := hLd.out.vs.z k hlt
        go_wp2_with fail
        have hLs := hLd.out.setS k sz _ hsv.out
        have hbs : Below w.heap.size w (w3.setCell ⟨bs, k, none⟩ (.int .i64 sz)) := hbd.setCell hLd.out.ge.2.1 _
        refine hK2.out _ _ ⟨hLs.c1, World.rangeAt_setCells_apart hHeld.2 bs k [.int .i64 sz] (.inl hnb)⟩ (fun hHeld2 => ?_)
        clear hK2 K hHeld
        have hHeld := hHeld2
        clear hHeld2 cj fj hLd hbd
        generalize World.setCell w3 _ _ = w5 at hLs hbs ⊢
        try simp only [Act.put, List.getElem_toArray, List.getElem_cons_succ, List.getElem_cons_zero, List.setIfInBounds_toArray, List.set_cons_zero, List.set_cons_succ]
        refine wpAnyH_done (by kernel_rfl) ?_ _
        clear hHeld
        go_wp2_with fail
        go_roundw
        case rel => exact ⟨k + 1, by omega, by go_num, hLs, hbs⟩
        case measure => simp [intOf]; omega
      · obtain rfl : k = n := by omega
        replace hL : LY _ _ _ _ _ _ _ _ _ _ _ _ _ _ _ := hL.congrS (S' := fun j => lenV (F j) false) (fun j hj => (if_pos hj).symm)
        clear hlt
        have hNN : Hid (k * k ≤ 268435456) := Lib.hid (Nat.le_trans (Nat.mul_le_mul hn hn) (by decide))
        go_wp2_with fail
        refine wp_label ?_
        go_wp2_with fail
        go_loopg [7] k (fun g _ wr => ∃ (L : Nat → Bool) (c : Nat) (R : Nat → Int) (m : Int → Int), Hid (longV F k = growF F k (g + 1) L) ∧ Hid (k ≤ g + cntF L k) ∧ LY w.heap.size y bs bl bp bm ao k cap c F L R m wr ∧ Hid (labF F L m k = labV F L k) ∧ Hid (∀ j, L j = true → (F j).kind = 3) ∧ Hid (c + g * k ≤ k * k) ∧ Below w.heap.size w wr)
        case atStart => exact ⟨_, _, _, _, Lib.hid rfl, Lib.hid (Nat.le_add_right _ _), hL, Lib.hid rfl, Lib.hid (fun j hj => by cases hj), Lib.hid (by omega), hb⟩
        case round =>
          clear hL hb
          obtain ⟨L, c, R, m, hlv, hcn, hL, hlm, hk3, hcc, hb⟩ := hrel
          have hLay := Lib.hid (Lay_any _ hL hF.out hn (by have := hcc.out; have := hNN.out; omega))
          rw [hlm.out] at hLay
          clear hL hlm
          go_upto_region 8 with (go_at_call 72; (with_reducible refine hLay.out.mono ?_); rintro e w1 ⟨rfl, hL, hbL⟩)
          replace hb := hb.trans hbL
          clear hbL hLay
          go_wp2_with fail
          go_loopw [7, 48] (fun s7 s48 wx => ∃ j : Nat, j ≤ k ∧ s48 = .int .i64 j ∧ wx.ownsRow w1.heap.size 3 1 s7 (moreF (condF F k L) j).length ((moreF (condF F k L) j).map (Value.int .i64)) ∧ Below w1.heap.size w1 wx) (fun _ s48 _ => k - (intOf s48).toNat)
          case atStart => exact ⟨0, Nat.zero_le _, rfl, World.ownsRow_nil _ _ _ _, Below.refl _ _⟩
          case round =>
            obtain ⟨j, hj, rfl, hown, hbx⟩ := hrel
            have hLx := hL.keep hbx
            by_cases hjk : j < k
            · obtain ⟨ib, io, rfl, hib, hcc2⟩ := hLx.it (by omega)
              have hR0 := Lib.hid (item_range (hcc2 j hjk))
              have hWay : Hid (∀ W, Below w1.heap.size w1 W → Calls Tryz.prog 74 #[.pointer (some ⟨y, 0, none⟩), .int .i64 j, .int .i64 0] W fun e w' => e = .returned (.int .i64 (wayF F L (labV F L k) j 0)) ∧ Below W.heap.size W w') := Lib.hid fun W hW => by
                have hp := placeF_bd F L j
                exact Way_any W (hL.keep hW) hF.out j 0 hjk hn (labV_bd F L k _) (by omega) (by decide) (by decide)
              have hml := moreF_len (condF F k L) j
              have hcd : condF F k L j = (decide ((F j).kind = 3) && !L j && !Fits (wayF F L (labV F L k) j 0) 13) := rfl
              have hm0 : Hid (condF F k L j = false → moreF (condF F k L) (j + 1) = moreF (condF F k L) j) := Lib.hid fun h => moreF_no h
              have hm1 : Hid (condF F k L j = true → moreF (condF F k L) (j + 1) = moreF (condF F k L) j ++ [(j : Int)]) := Lib.hid fun h => moreF_yes h
              have hql := hLx.vl.c j hjk
              obtain ⟨V, hV⟩ : ∃ x, wayF F L (labV F L k) j 0 = x := ⟨_, rfl⟩
              rw [hV] at hWay hcd
              obtain ⟨fb, hfb⟩ : ∃ x, Fits V 13 = x := ⟨_, rfl⟩
              have hFt : Hid (∀ W, Calls Tryz.prog 73 #[.int .i64 V, .int .i64 13] W fun e w' => e = .returned (.bool fb) ∧ W = w') := Lib.hid fun W => by rw [← hfb]; exact Fits_any V 13 W
              rw [hfb] at hcd
              obtain ⟨cd, hcv⟩ : ∃ x, condF F k L j = x := ⟨_, rfl⟩
              rw [hcv] at hcd hm0 hm1
              obtain ⟨lj, hlj⟩ : ∃ x, L j = x := ⟨_, rfl⟩
              rw [hlj] at hcd
              simp only [hlj] at hql
              generalize F j = it at hR0 hcd
              obtain ⟨kind, insn, label, addr⟩ := it
              simp only at hcd
              clear hcc2 hV hfb hcv hlj
              have hk1 : (0 : Int) ≤ (j : Int) := by omega
              have hk2 : (j : Int) < (k : Int) := by omega
              have hk3' : decide ((j : Int) < (k : Int)) = true := decide_eq_true hk2
              have hpt := Lib.hid (ItB.put wr ⟨kind, insn, label, addr⟩ #[.int .i64 0, .int .i64 0, .int .i64 0, .int .i64 0, .int .i64 0, .int .i64 0, .bool false, .bool false, .int .i64 0, .int .i64 0, .int .i64 0, .int .u64 0] rfl 29)
              have hth := Lib.hid (fresh12 wr #[.int .i64 0, .int .i64 0, .int .i64 0, .int .i64 0, .int .i64 0, .int .i64 0, .bool false, .bool false, .int .i64 0, .int .i64 0, .int .i64 0, .int .u64 0] rfl 29)
              have hon := Lib.hid (ItemV.one ⟨kind, insn, label, addr⟩)
              have hsz9 : Hid ((Tryz.prog.info? 29).map (·.size) = some (ItemV.cells ⟨kind, insn, label, addr⟩).toList.length) := Lib.hid (by rw [show (ItemV.cells ⟨kind, insn, label, addr⟩).toList.length = 12 from rfl]; kernel_rfl)
              clear hLx
              replace hL := Lib.hid hL
              replace hcd := Lib.hid hcd
              go_upto_region 12 with (first | (refine wpList_load_mid rfl 29 _ rfl ib (io + j * 12) rfl _ _ hR0.out Tryz.underlying29 rfl hsz9.out ?_) | (refine wpList_store_mid rfl 29 _ _ rfl wr.heap.size 0 (ItemV.cells ⟨kind, insn, label, addr⟩) rfl rfl (fun j hj => hth.out j hj) (by kernel_rfl) hon.out ?_))
              replace hpt := hpt.out
              clear hth hon hR0
              generalize World.setCells _ wr.heap.size 0 _ = w4 at hpt ⊢
              obtain ⟨hbx4, hbz⟩ := hpt
              have hb4 := hbx.trans (hbz.mono hbx.size)
              replace hown := own_keep hown hbz
              rw [← hbz.cell (p := ⟨bl, j, none⟩) (Nat.lt_of_lt_of_le hL.out.vl.lt hbx.size)] at hql
              clear hbz hbx
              generalize wr.heap.size = bx at hbx4 ⊢
              have c0 : w4.cell? ⟨bx, 0, none⟩ = some (.int .i64 kind) := hbx4.c 0 _ rfl
              have q2 := (hL.out.keep hb4).c2
              clear hbx4
              by_cases h3 : kind = 3
              · subst h3
                cases lj with
                | true =>
                  replace hm0 := Lib.hid (hm0.out (by rw [hcd.out]; rfl))
                  clear hm1 hcd
                  go_wp2_with fail
                  go_roundw
                  case rel => exact ⟨j + 1, by omega, by go_num, by rw [hm0.out]; exact hown, hb4⟩
                  case measure => simp [intOf]; omega
                | false =>
                  cases fb with
                  | true =>
                    replace hm0 := Lib.hid (hm0.out (by rw [hcd.out]; rfl))
                    clear hm1 hcd
                    go_wp2_with (first | (go_at_call 74; (with_reducible refine (hWay.out _ hb4).mono ?_); rintro e w6 ⟨rfl, hb6⟩; have hb8 := hb4.trans (hb6.mono hb4.size); replace hown := own_keep hown hb6; clear hb6 hb4) | (go_at_call 73; (with_reducible refine (hFt.out _).mono ?_); rintro e w7 ⟨rfl, rfl⟩))
                    go_roundw
                    case rel => exact ⟨j + 1, by omega, by go_num, by rw [hm0.out]; exact hown, hb8⟩
                    case measure => simp [intOf]; omega
                  | false =>
                    replace hm1 := Lib.hid (hm1.out (by rw [hcd.out]; rfl))
                    clear hm0 hcd
                    go_wp2_with (first | (go_at_call 74; (with_reducible refine (hWay.out _ hb4).mono ?_); rintro e w6 ⟨rfl, hb6⟩; have hb8 := hb4.trans (hb6.mono hb4.size); replace hown := own_keep hown hb6; clear hb6 hb4) | (go_at_call 73; (with_reducible refine (hFt.out _).mono ?_); rintro e w7 ⟨rfl, rfl⟩) | (at_builtin; refine wpList_append_own _ rfl _ _ 32 rfl w1.heap.size 3 i1 (.int .i64 0) 1 8 Tryz.underlying32 hi1.out hz1.out hs1.out hb1.out rfl (by decide) _ _ _ rfl (hown.alloc _) ⟨w6.heap.size, 0, none⟩ 1 1 [.int .i64 j] rfl rfl ?c1 ?c2 ?c3 ?c4 ?c5 ?_))
                    case c1 => exact cell_new1 _ _ _
                    case c2 => simp [Value.oneCell']
                    case c3 => unfold maxLen; omega
                    case c4 => omega
                    case c5 => have := hb8.size; simp; omega
                    intro v' w9 hown' hgrow _
                    have hb9 : Below w1.heap.size w1 w9 := (hb8.alloc hb8.size _).grown hgrow (by have := hb8.size; simp; omega) (fun j hj => (World.ownsRow.lt hown j hj).1)
                    go_wp2_with fail
                    go_roundw
                    case rel => exact ⟨j + 1, by omega, by go_num, by rw [hm1.out, List.length_append, List.map_append]; exact hown', hb9⟩
                    case measure => simp [intOf]; omega
              · have t3 : (kind == 3) = false := by simpa using h3
                replace hm0 := Lib.hid (hm0.out (by rw [hcd.out, decide_eq_false h3]; rfl))
                clear hm1 hcd h3
                go_wp2_with fail
                go_roundw
                case rel => exact ⟨j + 1, by omega, by go_num, by rw [hm0.out]; exact hown, hb4⟩
                case measure => simp [intOf]; omega
            · obtain rfl : k = j := by omega
              clear hjk hj
              obtain ⟨mr, hmr⟩ : ∃ x, moreF (condF F k L) k = x := ⟨_, rfl⟩
              rw [hmr] at hown
              have hblm : bl < w1.heap.size := hL.vl.lt
              replace hL := hL.keep hbx
              replace hb := hb.trans (hbx.mono hb.size)
              clear hbx
              by_cases hz : mr.length = 0
              · have hany : anyB (condF F k L) k = false := (moreF_nil _ _).1 (by rw [hmr]; exact hz)
                have hfin : Hid (longV F k = L) := Lib.hid (by rw [hlv.out]; show (if _ then _ else _) = _; rw [if_neg (by rw [hany]; decide)])
                rw [hz] at hown
                obtain ⟨aq, cq, rfl⟩ := own_sliceN hown
                clear hown hlv hcn hcc hany hmr hz hblm
                go_wp2_with fail
                go_loopw [96] (fun s96 wz => ∃ j : Nat, j ≤ k ∧ s96 = .int .i64 j ∧ LY w.heap.size y bs bl bp bm ao k cap (c + k) F L (placeF F L) (labV F L k) wz ∧ Below w.heap.size w wz) (fun s96 _ => k - (intOf s96).toNat)
                case atStart => exact ⟨0, Nat.zero_le _, rfl, hL, hb⟩
                case round =>
                  clear hL hb
                  obtain ⟨j, hj, rfl, hL, hb⟩ := hrel
                  by_cases hjk : j < k
                  · obtain ⟨ib, io, rfl, hib, hcc2⟩ := hL.it (by omega)
                    have hR0 := Lib.hid (item_range (hcc2 j hjk))
                    have hWay : Hid (∀ b : Int, 0 ≤ b → b ≤ 1 → ∀ W, Below wr.heap.size wr W → Calls Tryz.prog 74 #[.pointer (some ⟨y, 0, none⟩), .int .i64 j, .int .i64 b] W fun e w' => e = .returned (.int .i64 (wayF F L (labV F L k) j b)) ∧ Below W.heap.size W w') := Lib.hid fun b hb0 hb1 W hW => by
                      have hp := placeF_bd F L j
                      exact Way_any W (hL.keep hW) hF.out j b hjk hn (labV_bd F L k _) (by omega) hb0 hb1
                    have hFt : Hid (∀ b : Int, 0 ≤ b → b ≤ 1 → ∀ W, Calls Tryz.prog 73 #[.int .i64 (wayF F L (labV F L k) j b), .int .i64 21] W fun e w' => e = .returned (.bool true) ∧ W = w') := Lib.hid fun b hb0 hb1 W => by
                      have hbd := wayF_bd F L k j b hn hjk hb0 hb1
                      rw [← fits21 _ hbd.1 hbd.2]; exact Fits_any _ 21 W
                    have hql := hL.vl.c j hjk
                    obtain ⟨lj, hlj⟩ : ∃ x, L j = x := ⟨_, rfl⟩
                    have h3 := hk3.out j
                    rw [hlj] at h3
                    simp only [hlj] at hql
                    obtain ⟨it, hit⟩ : ∃ it, F j = it := ⟨_, rfl⟩
                    rw [hit] at hR0 h3
                    clear hlj hit hcc2
                    obtain ⟨kind, insn, label, addr⟩ := it
                    simp only at h3
                    have hk1 : (0 : Int) ≤ (j : Int) := by omega
                    have hk2 : (j : Int) < (k : Int) := by omega
                    have hk3' : decide ((j : Int) < (k : Int)) = true := decide_eq_true hk2
                    have hpt := Lib.hid (ItB.put wr ⟨kind, insn, label, addr⟩ #[.int .i64 0, .int .i64 0, .int .i64 0, .int .i64 0, .int .i64 0, .int .i64 0, .bool false, .bool false, .int .i64 0, .int .i64 0, .int .i64 0, .int .u64 0] rfl 29)
                    have hth := Lib.hid (fresh12 wr #[.int .i64 0, .int .i64 0, .int .i64 0, .int .i64 0, .int .i64 0, .int .i64 0, .bool false, .bool false, .int .i64 0, .int .i64 0, .int .i64 0, .int .u64 0] rfl 29)
                    have hon := Lib.hid (ItemV.one ⟨kind, insn, label, addr⟩)
                    have hsz9 : Hid ((Tryz.prog.info? 29).map (·.size) = some (ItemV.cells ⟨kind, insn, label, addr⟩).toList.length) := Lib.hid (by rw [show (ItemV.cells ⟨kind, insn, label, addr⟩).toList.length = 12 from rfl]; kernel_rfl)
                    go_upto_region 24 with (first | (refine wpList_load_mid rfl 29 _ rfl ib (io + j * 12) rfl _ _ hR0.out Tryz.underlying29 rfl hsz9.out ?_) | (refine wpList_store_mid rfl 29 _ _ rfl wr.heap.size 0 (ItemV.cells ⟨kind, insn, label, addr⟩) rfl rfl (fun j hj => hth.out j hj) (by kernel_rfl) hon.out ?_))
                    replace hpt := hpt.out
                    clear hth hon hR0
                    generalize World.setCells _ wr.heap.size 0 _ = w4 at hpt ⊢
                    obtain ⟨hbx4, hb4⟩ := hpt
                    have hbn4 := hb.trans (hb4.mono hb.size)
                    rw [← hb4.cell (p := ⟨bl, j, none⟩) hL.vl.lt] at hql
                    have hL4 := hL.keep hb4
                    clear hb hL
                    have c0 : w4.cell? ⟨wr.heap.size, 0, none⟩ = some (.int .i64 kind) := hbx4.c 0 _ rfl
                    have q2 := hL4.c2
                    replace hL4 := Lib.hid hL4
                    clear hbx4
                    cases lj with
                    | true =>
                      have h3' : kind = 3 := h3 rfl
                      subst h3'
                      clear h3
                      replace hWay := Lib.hid (hWay.out 1 (by decide) (by decide))
                      replace hFt := Lib.hid (hFt.out 1 (by decide) (by decide))
                      go_wp2_with (first | (go_at_call 74; (with_reducible refine (hWay.out _ hb4).mono ?_); rintro e w6 ⟨rfl, hb6⟩; replace hL4 := hL4.out.keep hb6; have hb8 := hbn4.trans (hb6.mono hbn4.size); clear hb6) | (go_at_call 73; (with_reducible refine (hFt.out _).mono ?_); rintro e w7 ⟨rfl, rfl⟩))
                      go_roundw
                      case rel => exact ⟨j + 1, by omega, by go_num, hL4, hb8⟩
                      case measure => simp [intOf]; omega
                    | false =>
                      clear h3
                      by_cases h4 : kind = 4
                      · subst h4
                        replace hWay := Lib.hid (hWay.out 0 (by decide) (by decide))
                        replace hFt := Lib.hid (hFt.out 0 (by decide) (by decide))
                        go_wp2_with (first | (go_at_call 74; (with_reducible refine (hWay.out _ hb4).mono ?_); rintro e w6 ⟨rfl, hb6⟩; replace hL4 := hL4.out.keep hb6; have hb8 := hbn4.trans (hb6.mono hbn4.size); clear hb6) | (go_at_call 73; (with_reducible refine (hFt.out _).mono ?_); rintro e w7 ⟨rfl, rfl⟩))
                        go_roundw
                        case rel => exact ⟨j + 1, by omega, by go_num, hL4, hb8⟩
                        case measure => simp [intOf]; omega
                      · have t4 : (kind == 4) = false := by simpa using h4
                        clear h4
                        go_wp2_with fail
                        go_roundw
                        case rel => exact ⟨j + 1, by omega, by go_num, hL4.out, hbn4⟩
                        case measure => simp [intOf]; omega
                  · obtain rfl : k = j := by omega
                    replace hL := Lib.hid hL
                    go_wp2_with fail
                    unfold Exit.noGoto
                    go_ret2
                    exact ⟨⟨y, bs, bl, bp, bm, _, rfl, by rw [hfin.out]; exact hL.out⟩, hb⟩
              · rcases hown.2 with ⟨_, h0⟩ | ⟨gm, capm, cur, rfl, hgm, _⟩
                · exact absurd h0 hz
                have hVm : VR gm mr.length (fun i => .int .i64 (mr.getD i 0)) wr := ⟨fun i hi => by rw [hown.cellAt i (by omega)]; simp [hi], fun i hi => hown.frozenAt i, (hown.lt gm rfl).2⟩
                have hmem : Hid (∀ i, i < mr.length → ∃ q : Nat, q < k ∧ mr[i]? = some (q : Int)) := Lib.hid fun i hi => by
                  have hx : mr[i] ∈ moreF (condF F k L) k := by rw [hmr]; exact List.getElem_mem hi
                  obtain ⟨q, hq, -, he⟩ := (moreF_mem _ _ _).1 hx
                  exact ⟨q, hq, by rw [List.getElem?_eq_getElem hi, he]⟩
                have hany : anyB (condF F k L) k = true := by
                  cases h : anyB (condF F k L) k with
                  | true => rfl
                  | false => have := (moreF_nil _ _).2 h; rw [hmr] at this; exact absurd this hz
                have hmrl : mr.length ≤ k := by rw [← hmr]; exact moreF_len _ _
                have hgb : bl ≠ gm := by omega
                have hge0 : w.heap.size ≤ bl := hL.ge.2.2.1
                have hall : Hid (∀ x, x < k → stepF F k L x = (L x || decide ((x : Int) ∈ mr.take mr.length))) := Lib.hid fun x hx => by rw [List.take_length, ← hmr, more_all _ hx]; rfl
                have hcs := cntF_step F k L hany
                have hcs2 := cntF_le (stepF F k L) k
                have hgk : 1 ≤ gk := by have := hcn.out; omega
                have hlv2 : Hid (longV F k = growF F k (gk - 1 + 1) (stepF F k L)) := Lib.hid (by
                  rw [hlv.out]
                  show (if _ then _ else _) = _
                  rw [if_pos hany, Nat.sub_add_cancel hgk])
                have hcn2 : Hid (k ≤ gk - 1 + cntF (stepF F k L) k) := Lib.hid (by have := hcn.out; omega)
                have hcc2 : Hid (c + k + (gk - 1) * k ≤ k * k) := Lib.hid (by
                  have h := hcc.out
                  have e : gk * k = (gk - 1) * k + k := by
                    conv => lhs; rw [show gk = gk - 1 + 1 by omega, Nat.succ_mul]
                  omega)
                have hk32 : Hid (∀ j, stepF F k L j = true → (F j).kind = 3) := Lib.hid fun j h => by
                  unfold stepF at h
                  rcases Bool.or_eq_true_iff.1 h with h | h
                  · exact hk3.out j h
                  · unfold condF at h; simp at h; exact h.1.1
                have hzb : (((mr.length : Nat) : Int) == 0) = false := by simpa using hz
                clear hown hlv hcn hcc hany hmr hcs hcs2 hgm hblm hk3
                replace hgk := Lib.hid hgk
                go_wp2_with fail
                go_loopw [83] (fun s83 wz => ∃ j : Nat, j ≤ mr.length ∧ s83 = .int .i64 j ∧ LY w.heap.size y bs bl bp bm ao k cap (c + k) F (fun x => L x || decide ((x : Int) ∈ mr.take j)) (placeF F L) (labV F L k) wz ∧ VR gm mr.length (fun i => .int .i64 (mr.getD i 0)) wz ∧ Below w.heap.size w wz) (fun s83 _ => mr.length - (intOf s83).toNat)
                case atStart => exact ⟨0, Nat.zero_le _, rfl, hL.congr (fun _ _ => by simp) (fun _ _ => rfl), hVm, hb⟩
                case round =>
                  clear hL hb hVm
                  obtain ⟨j, hj, rfl, hL, hVm, hb⟩ := hrel
                  by_cases hjk : j < mr.length
                  · obtain ⟨q, hq, hqe⟩ := hmem.out j hjk
                    have hqc := hVm.c j hjk
                    rw [show mr.getD j 0 = (q : Int) by rw [List.getD_eq_getElem?_getD, hqe]; rfl] at hqc
                    have hk1 : (0 : Int) ≤ (j : Int) := by omega
                    have hk2 : (j : Int) < (mr.length : Int) := by omega
                    have hk3' : decide ((j : Int) < (mr.length : Int)) = true := decide_eq_true hk2
                    have hj1 : (0 : Int) ≤ (q : Int) := by omega
                    have hj2 : (q : Int) < (k : Int) := by omega
                    have hql := hL.vl.c q hq
                    have hqf := hL.vl.z q hq
                    have q2 := hL.c2
                    replace hL := Lib.hid hL
                    replace hqe := Lib.hid hqe
                    go_upto_region 20 with fail
                    have hb9 : Below w.heap.size w (wr.setCell ⟨bl, q, none⟩ (.bool true)) := hb.setCell hge0 _
                    replace hL := hL.out.setL q true (fun x => L x || decide ((x : Int) ∈ mr.take (j + 1))) (fun x hx => by
                      show (L x || decide ((x : Int) ∈ mr.take (j + 1))) = if x = q then true else (L x || decide ((x : Int) ∈ mr.take j))
                      rw [take_mem mr j q x hqe.out]
                      by_cases e : x = q
                      · rw [if_pos e, decide_eq_true e, Bool.true_or, Bool.or_true]
                      · rw [if_neg e, decide_eq_false e, Bool.false_or])
                    replace hVm := hVm.other ⟨bl, q, none⟩ (.bool true) hgb
                    clear hql hqf q2 hqc hb
                    generalize World.setCell wr _ _ = w9 at hL hVm hb9 ⊢
                    go_wp2_with fail
                    go_roundw
                    case rel => exact ⟨j + 1, by omega, by go_num, hL, hVm, hb9⟩
                    case measure => simp [intOf]; omega
                  · obtain rfl : j = mr.length := by omega
                    go_wp2_with fail
                    go_roundg (gk - 1)
                    case measure => have := hgk.out; omega
                    case rel => exact ⟨stepF F k L, c + k, _, _, hlv2, hcn2, hL.congr (fun x hx => hall.out x hx) (fun _ _ => rfl), Lib.hid (labF_over F _ L k), hk32, hcc2, hb⟩
end Go.Proofs.YtcgflnkgekkidaaGreatDoor
