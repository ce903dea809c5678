/- Plain: a region that draws its order: a plan of it (moves taken ahead, a fork where two operations are free) serves every order. What is listed is kept as the bits of a number. No program in sight. Conditions: none. -/
import Derived.StillTail
namespace Go.Proofs.Ytfepbaogpmblaaa
open Go
/-- An operation that only copies an operand. -/
def isMove (o : Oper) : Bool := match o.op with | .move _ => true | _ => false
inductive Plan where
  | done
  | seg (l : List Nat) (p : Plan)
  | fork (i : Nat) (p : Plan) (j : Nat) (q : Plan)
def Plan.len : Plan → Nat
  | .done => 0
  | .seg l p => l.length + p.len
  | .fork _ p _ q => max p.len q.len + 1
/-- The operations that one waits for, as bits. -/
def maskOf (md : Region.Mode) : List Edge → Nat
  | [] => 0
  | e :: es => if Region.binds md e then (1 <<< e.on) ||| maskOf md es else maskOf md es
def masksOf (md : Region.Mode) (l : List Oper) : List Nat := l.map fun o => maskOf md o.after.toList
def fits (m L : Nat) : Bool := Nat.beq (m &&& L) m
/-- From number k on: those that are ready are among 'is'. -/
def onlyB (is : List Nat) : List Nat → Nat → Nat → Bool
  | [], _, _ => true
  | m :: ms, k, L => (is.contains k || L.testBit k || !fits m L) && onlyB is ms (k + 1) L
def readyB (ms : List Nat) (L i : Nat) : Bool := !L.testBit i && (match ms[i]? with | some m => fits m L | none => false)
/-- A move that may be taken first: each other operation waits for it, or it waits for that one, or they are apart. -/
def freeB (ops : Array Oper) (ms : List Nat) (i : Nat) (oi : Oper) (mi : Nat) : List Oper → List Nat → Nat → Bool
  | o :: os, m :: rest, k => (Nat.beq k i || m.testBit i || mi.testBit k || oi.apart ops o) && freeB ops ms i oi mi os rest (k + 1)
  | _, _, _ => true
def nextB (ops : Array Oper) (ms : List Nat) (L i : Nat) : Bool :=
  readyB ms L i && (onlyB [i] ms 0 L || (match ops[i]?, ms[i]? with | some o, some m => isMove o && freeB ops ms i o m ops.toList ms 0 | _, _ => false))
def segB (ops : Array Oper) (ms : List Nat) : List Nat → Nat → Bool
  | [], _ => true
  | i :: rest, L => nextB ops ms L i && segB ops ms rest (L ||| (1 <<< i))
def listAll (l : List Nat) (L : Nat) : Nat := match l with | [] => L | i :: rest => listAll rest (L ||| (1 <<< i))
def Plan.ok (ops : Array Oper) (ms : List Nat) : Plan → Nat → Bool
  | .done, L => onlyB [] ms 0 L
  | .seg l p, L => segB ops ms l L && p.ok ops ms (listAll l L)
  | .fork i p j q, L => readyB ms L i && readyB ms L j && onlyB [i, j] ms 0 L && p.ok ops ms (L ||| (1 <<< i)) && q.ok ops ms (L ||| (1 <<< j))
def wpPlan (P : Program) (ops : Array Oper) (Q : Exit → Act → World → Prop) : Plan → Act → World → Prop
  | .done, a, w => Q .normal a w
  | .seg l p, a, w => wpList P ops (Exit.then (wpPlan P ops Q p) Q) (l.filterMap fun i => ops[i]?) a w
  | .fork i p j q, a, w => wpList P ops (Exit.then (wpPlan P ops Q p) Q) ([i].filterMap fun i => ops[i]?) a w ∧ wpList P ops (Exit.then (wpPlan P ops Q q) Q) ([j].filterMap fun i => ops[i]?) a w
theorem isMove_run {o : Oper} (h : isMove o = true) (ρ : Operand → Value) : ∃ v, ∀ (P : Program) (w : World), (execOp ρ o).run P w = .ok (.value v) w := by
  unfold isMove at h
  split at h
  · rename_i x hx
    exact ⟨ρ x, fun P w => by simp [execOp, hx]⟩
  · cases h
theorem isMove_asks {o : Oper} (h : isMove o = true) (P : Program) (a : Act) (w : World) : ¬ o.asks P a w := by
  unfold isMove at h
  split at h
  · rename_i x hx
    intro hA
    have h1 := hA.1
    have e : execOp a.eval o = pure (Next.value (a.eval x)) := by simp [execOp, hx]
    rw [e] at h1
    have e2 : ((pure (Next.value (a.eval x)) : Sem Next).runT P w #[]).2 = #[] := rfl
    rw [e2] at h1
    simp at h1
  · cases h
theorem maskOf_bit (md : Region.Mode) (k : Nat) : ∀ es : List Edge, (maskOf md es).testBit k = true ↔ ∃ e ∈ es, Region.binds md e = true ∧ e.on = k
  | [] => by simp [maskOf]
  | e :: es => by
    unfold maskOf
    by_cases hb : Region.binds md e = true
    · rw [if_pos hb, Nat.testBit_or, Bool.or_eq_true, maskOf_bit md k es, Nat.one_shiftLeft, Nat.testBit_two_pow]
      simp [hb]
    · rw [if_neg hb, maskOf_bit md k es]
      simp [hb]
theorem fits_iff (m L : Nat) : fits m L = true ↔ ∀ k, m.testBit k = true → L.testBit k = true := by
  unfold fits
  rw [show (Nat.beq (m &&& L) m = true) = ((m &&& L) = m) from propext ⟨Nat.eq_of_beq_eq_true, fun h => by rw [h]; exact Nat.beq_refl m⟩]
  constructor
  · intro h k hk
    rw [← h, Nat.testBit_and] at hk
    simp at hk; exact hk.2
  · intro h
    apply Nat.eq_of_testBit_eq
    intro k
    rw [Nat.testBit_and]
    cases hk : m.testBit k
    · rfl
    · rw [h k hk]; rfl
/-- The bits say what is listed. -/
structure Rep (ops : Array Oper) (L : Nat) (listed : Array Bool) : Prop where
  size : listed.size = ops.size
  bit : ∀ k, listed.getD k false = L.testBit k
theorem Rep.off {ops : Array Oper} {L : Nat} {listed : Array Bool} (h : Rep ops L listed) (k : Nat) : listed.getD k true = false ↔ k < ops.size ∧ L.testBit k = false := by
  have := h.bit k
  rcases Nat.lt_or_ge k listed.size with hk | hk
  · simp [hk] at this ⊢
    rw [this]
    simp [← h.size, hk]
  · simp [Array.getElem?_eq_none hk]
    intro h'; rw [← h.size] at h'; omega
theorem Rep.step {ops : Array Oper} {L : Nat} {listed : Array Bool} (h : Rep ops L listed) (i : Nat) (hi : i < ops.size) : Rep ops (L ||| (1 <<< i)) (listed.setIfInBounds i true) := by
  refine ⟨by simp [h.size], fun k => ?_⟩
  rw [Nat.testBit_or, Nat.one_shiftLeft, Nat.testBit_two_pow]
  by_cases hk : i = k
  · subst hk
    have : i < listed.size := by rw [h.size]; exact hi
    simp [this]
  · rw [getD_set_ne false hk, h.bit k]; simp [hk]
theorem Rep.start (ops : Array Oper) : Rep ops 0 (Array.replicate ops.size false) :=
  ⟨by simp, fun k => by rw [getD_replicate_false]; simp⟩
section
variable {P : Program} {md : Region.Mode} {ops : Array Oper} {Q : Exit → Act → World → Prop} {ms : List Nat}
theorem masks_at (hms : masksOf md ops.toList = ms) (k : Nat) : ms[k]? = (ops[k]?).map fun o => maskOf md o.after.toList := by
  rw [← hms, masksOf, List.getElem?_map]; simp
theorem ready_iff (hms : masksOf md ops.toList = ms) {L : Nat} {listed : Array Bool} (h : Rep ops L listed) (k : Nat) : k ∈ Region.ready md ops listed ↔ readyB ms L k = true := by
  rw [mem_ready, h.off]
  unfold readyB
  rw [masks_at hms]
  cases ho : ops[k]? with
  | none => simp
  | some o =>
    have hlt : k < ops.size := (Array.getElem?_eq_some_iff.1 ho).1
    simp only [hlt, true_and, Option.map_some, Bool.and_eq_true, Bool.not_eq_true', Option.some.injEq, exists_eq_left']
    refine and_congr Iff.rfl ?_
    rw [fits_iff]
    constructor
    · intro hh j hj
      obtain ⟨e, he, hb, rfl⟩ := (maskOf_bit md j _).1 hj
      rw [← h.bit]; exact hh e (by simpa using he) hb
    · intro hh e he hb
      rw [h.bit]; exact hh _ ((maskOf_bit md _ _).2 ⟨e, by simpa using he, hb, rfl⟩)
theorem only_spec (is : List Nat) (L : Nat) : ∀ (l : List Nat) (k : Nat), onlyB is l k L = true → ∀ j m, l[j]? = some m → (is.contains (k + j) || L.testBit (k + j) || !fits m L) = true
  | [], _, _, j, m, hj => by simp at hj
  | a :: l, k, h, j, m, hj => by
    simp only [onlyB, Bool.and_eq_true] at h
    rcases j with _ | j
    · simp at hj; subst hj; simpa using h.1
    · have := only_spec is L l (k + 1) h.2 j m (by simpa using hj)
      rwa [show k + 1 + j = k + (j + 1) by omega] at this
theorem only_ready {is : List Nat} {L : Nat} (h : onlyB is ms 0 L = true) (k : Nat) (hk : readyB ms L k = true) : k ∈ is := by
  unfold readyB at hk
  cases hm : ms[k]? with
  | none => simp [hm] at hk
  | some m =>
    have := only_spec is L ms 0 h k m hm
    simp [hm] at hk
    simpa [hk.1, hk.2] using this
theorem free_spec {i : Nat} {oi : Oper} {mi : Nat} : ∀ (os : List Oper) (l : List Nat) (k : Nat), freeB ops ms i oi mi os l k = true → ∀ j o m, os[j]? = some o → l[j]? = some m → (Nat.beq (k + j) i || m.testBit i || mi.testBit (k + j) || oi.apart ops o) = true
  | [], _, _, _, j, o, m, ho, _ => by simp at ho
  | _ :: _, [], _, _, j, o, m, _, hm => by simp at hm
  | a :: os, b :: l, k, h, j, o, m, ho, hm => by
    simp only [freeB, Bool.and_eq_true] at h
    rcases j with _ | j
    · simp at ho hm; subst ho; subst hm; simpa using h.1
    · have := free_spec os l (k + 1) h.2 j o m (by simpa using ho) (by simpa using hm)
      rwa [show k + 1 + j = k + (j + 1) by omega] at this
theorem wp_then {K : Act → World → Prop} {o : Oper} {a : Act} {w : World} {L : Act → World → Prop} (h : o.wp P a w L (Exit.then K Q) ∨ (o.asks P a w ∧ LetsOut (Exit.then K Q))) : o.wp P a w L Q ∨ (o.asks P a w ∧ LetsOut Q) := by
  rcases h with h | h
  · refine .inl ?_
    unfold Oper.wp at *
    generalize (execOp a.eval o).run P w = r at *
    cases r with
    | ok n w' =>
      cases n <;> simp only [Oper.upon] at h ⊢ <;> first | exact h | exact Calls.mono h (fun e w'' he => by cases e <;> exact he)
    | halt x w' => cases x <;> simp only [Oper.upon] at h ⊢ <;> exact h
  · exact .inr ⟨h.1, h.2⟩
theorem wpOp_of_list {K : Act → World → Prop} {i : Nat} {l : List Oper} {o : Oper} (ho : ops[i]? = some o) {a : Act} {w : World} (h : wpList P ops (Exit.then K Q) (o :: l) a w) :
    wpOp P ops Q i (wpList P ops (Exit.then K Q) l) a w := by
  unfold wpOp
  simp only [ho]
  unfold wpList at h
  split
  · rename_i hw; rw [if_pos hw] at h; exact wp_then h
  · rename_i hw; rw [if_neg hw] at h; exact h
theorem ready_lt (hms : masksOf md ops.toList = ms) {L i : Nat} (h : readyB ms L i = true) : ∃ o, ops[i]? = some o := by
  unfold readyB at h
  rw [masks_at hms] at h
  cases ho : ops[i]? with
  | none => simp [ho] at h
  | some o => exact ⟨o, rfl⟩
theorem wpAny_seg (hms : masksOf md ops.toList = ms) (hs : Region.noSelect ops = true) (hQ : ∀ c a w d v, Q (.panic c) (Act.put a d v) w → Q (.panic c) a w) {K : Act → World → Prop} {m : Nat} :
    ∀ (l : List Nat) (L : Nat) (listed : Array Bool) (a : Act) (w : World), Rep ops L listed → segB ops ms l L = true → (∀ listed a w, Rep ops (listAll l L) listed → K a w → wpAny P md ops Q m listed a w) →
      wpList P ops (Exit.then K Q) (l.filterMap fun i => ops[i]?) a w → wpAny P md ops Q (l.length + m) listed a w
  | [], _, _, _, _, hR, _, hK, h => by
    simp only [List.filterMap_nil, wpList] at h
    simpa using hK _ _ _ hR h
  | i :: rest, L, listed, a, w, hR, hB, hK, h => by
    simp only [segB, Bool.and_eq_true, nextB] at hB
    obtain ⟨⟨hr, hB⟩, hrest⟩ := hB
    obtain ⟨o, ho⟩ := ready_lt hms hr
    have hlt : i < ops.size := (Array.getElem?_eq_some_iff.1 ho).1
    have hmem := (ready_iff hms hR i).2 hr
    simp only [List.filterMap_cons, ho] at h
    rw [show (i :: rest).length + m = (rest.length + m) + 1 by simp; omega]
    have ih := fun a w h => wpAny_seg hms hs hQ (m := m) rest _ (listed.setIfInBounds i true) a w (hR.step i hlt) hrest hK h
    rw [Bool.or_eq_true] at hB
    rcases hB with hB | hB
    · refine ⟨fun h0 => (by rw [h0] at hmem; cases hmem), fun j hj => ?_⟩
      obtain rfl : j = i := by simpa using only_ready hB j ((ready_iff hms hR j).1 hj)
      exact wpOp_mono (fun a' w' h' => ih a' w' h') (wpOp_of_list ho h)
    · have hmi := masks_at hms i
      rw [ho] at hmi
      simp only [Option.map_some] at hmi
      simp only [ho, hmi, Bool.and_eq_true] at hB
      obtain ⟨hm, hf⟩ := hB
      have hfree : ∀ j oj, ops[j]? = some oj → j ≠ i → listed.getD j true = false → (∀ e ∈ oj.after, Region.binds md e = true → e.on ≠ i) → o.apart ops oj = true := by
        intro j oj hoj hji hun hno
        have hmj := masks_at hms j
        rw [hoj] at hmj
        have := free_spec ops.toList ms 0 hf j oj _ (by simpa using hoj) hmj
        rw [Nat.zero_add] at this
        have n1 : Nat.beq j i = false := by
          cases hb : Nat.beq j i
          · rfl
          · exact absurd (Nat.eq_of_beq_eq_true hb) hji
        have n2 : (maskOf md oj.after.toList).testBit i = false := by
          cases hb : (maskOf md oj.after.toList).testBit i
          · rfl
          · obtain ⟨e, he, hb, h'⟩ := (maskOf_bit md i _).1 hb
            exact absurd h' (hno e (by simpa using he) hb)
        have n3 : (maskOf md o.after.toList).testBit j = false := by
          cases hb : (maskOf md o.after.toList).testBit j
          · rfl
          · obtain ⟨e, he, hb, h'⟩ := (maskOf_bit md j _).1 hb
            have h2 := (mem_ready.1 hmem).2
            obtain ⟨o', ho', h3⟩ := h2
            obtain rfl : o = o' := Option.some.inj (ho.symm.trans ho')
            have h4 := h3 e (by simpa using he) hb
            rw [h', hR.bit] at h4
            rw [((hR.off j).1 hun).2] at h4; cases h4
        rw [n1, n2, n3] at this
        simpa using this
      obtain ⟨v, hv⟩ := isMove_run hm a.eval
      unfold wpList at h
      by_cases hw : Region.wanted o (yielded ops a.tmps) = true
      · rw [if_pos hw] at h
        refine wpAny_first ho (Region.noSelect_spec hs) (fun c a w => hQ c a w _ _) _ listed a w hfree hmem (.inl ⟨hw, hv P⟩) (ih _ _ ?_)
        rcases h with h | h
        · simpa [Oper.wp, hv P, Oper.upon] using h
        · exact absurd h.1 (isMove_asks hm P a w)
      · rw [if_neg hw] at h
        exact wpAny_first ho (Region.noSelect_spec hs) (fun c a w => hQ c a w _ _) _ listed a w hfree hmem (.inr ⟨by simpa using hw, rfl⟩) (ih _ _ h)
theorem wpAny_of_plan (hms : masksOf md ops.toList = ms) (hs : Region.noSelect ops = true) (hQ : ∀ c a w d v, Q (.panic c) (Act.put a d v) w → Q (.panic c) a w) :
    ∀ (p : Plan) (n : Nat) (L : Nat) (listed : Array Bool) (a : Act) (w : World), p.len ≤ n → Rep ops L listed → p.ok ops ms L = true → wpPlan P ops Q p a w → wpAny P md ops Q n listed a w
  | .done, n, L, listed, _, _, _, hR, hB, h => wpAny_done (by
      have : ∀ k, k ∉ Region.ready md ops listed := fun k hk => by
        have := only_ready hB k ((ready_iff hms hR k).1 hk); cases this
      exact List.eq_nil_iff_forall_not_mem.2 this) h n
  | .seg l p, n, L, listed, a, w, hn, hR, hB, h => by
    simp only [Plan.ok, Bool.and_eq_true] at hB
    simp only [Plan.len] at hn
    rw [show n = l.length + (n - l.length) by omega]
    exact wpAny_seg hms hs hQ l L listed a w hR hB.1 (fun listed a w hR h => wpAny_of_plan hms hs hQ p _ _ listed a w (by omega) hR hB.2 h) h
  | .fork i p j q, n, L, listed, a, w, hn, hR, hB, h => by
    simp only [Plan.ok, Bool.and_eq_true] at hB
    obtain ⟨⟨⟨⟨hi, hj⟩, ho⟩, hp⟩, hq⟩ := hB
    simp only [Plan.len] at hn
    obtain ⟨m, rfl⟩ : ∃ m, n = m + 1 := ⟨n - 1, by omega⟩
    have hmem := (ready_iff hms hR i).2 hi
    obtain ⟨oi, hoi⟩ := ready_lt hms hi
    obtain ⟨oj, hoj⟩ := ready_lt hms hj
    obtain ⟨h1, h2⟩ := h
    simp only [List.filterMap_cons, hoi, hoj, List.filterMap_nil] at h1 h2
    refine ⟨fun h0 => (by rw [h0] at hmem; cases hmem), fun k hk => ?_⟩
    have hk' := only_ready ho k ((ready_iff hms hR k).1 hk)
    rcases (by simpa using hk' : k = i ∨ k = j) with rfl | rfl
    · exact wpOp_mono (fun a' w' h' => wpAny_of_plan hms hs hQ p m _ _ a' w' (by omega) (hR.step k (Array.getElem?_eq_some_iff.1 hoi).1) hp h') (wpOp_of_list hoi h1)
    · exact wpOp_mono (fun a' w' h' => wpAny_of_plan hms hs hQ q m _ _ a' w' (by omega) (hR.step k (Array.getElem?_eq_some_iff.1 hoj).1) hq h') (wpOp_of_list hoj h2)
theorem wp_region_plan {id : Nat} {a : Act} {w : World} (p : Plan) (ms : List Nat) (hm : P.follows .mixedOrders = true)
    (h1 : Region.noSelect ops = true) (hms : masksOf .any ops.toList = ms) (h2 : Nat.ble p.len ops.size = true) (h3 : p.ok ops ms 0 = true)
    (hQ : ∀ c a w d v, Q (.panic c) (Act.put a d v) w → Q (.panic c) a w)
    (h : wpPlan P ops Q p a w.drew) : (Code.region id ops true).wp P Q a w :=
  wp_region_any hm (wpAny_of_plan hms h1 hQ p _ 0 _ a w.drew (Nat.le_of_ble_eq_true h2) (Rep.start ops) h3 h)
end
end Go.Proofs.Ytfepbaogpmblaaa
