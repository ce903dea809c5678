/- Plain: moves, loads and immediates hand dependencies on as the law's model says. No program in sight. Conditions: none. -/
import Derived.Test.YtebeajnaamglkaaDoorTntLc
import Derived.Test.YtebeajnaamglkaaDoorFieldsPl
set_option linter.unusedSimpArgs false
set_option linter.unusedVariables false
namespace Go.Proofs.YtebeajnaamglkaaDoor
def addiI (rd rs : Int) : InsnV := ⟨22, rd, rs, 0, 0, false, false, 0, 0⟩
def ldI (rd rs : Int) : InsnV := ⟨14, rd, rs, 0, 0, false, false, 0, 0⟩
def luiI (rd : Int) : InsnV := ⟨1, rd, 0, 0, 1, false, false, 0, 0⟩
theorem op22 : (opOf 22).form = 3 ∧ (opOf 22).loads = false ∧ (opOf 22).stores = false := by decide +kernel
theorem op14 : (opOf 14).form = 4 ∧ (opOf 14).loads = true ∧ (opOf 14).stores = false := by decide +kernel
theorem op1 : (opOf 1).form = 1 ∧ (opOf 1).loads = false ∧ (opOf 1).stores = false := by decide +kernel
theorem reg_ok {r : Int} (h : 0 ≤ r ∧ r < 32) : regBad r = false := by unfold regBad; simp; omega
theorem fits_0 : Fits 0 12 = true := by decide +kernel
theorem fits_1 : Fits 1 20 = true := by decide +kernel
theorem addi_ok {rd rs : Int} (h1 : 0 ≤ rd ∧ rd < 32) (h2 : 0 ≤ rs ∧ rs < 32) : checkE (addiI rd rs) = 0 := by
  have : checkOk (addiI rd rs) = true := by
    unfold checkOk
    rw [show (addiI rd rs).op = 22 from rfl, op22.1]
    unfold formOk
    simp [addiI, badIn, reg_ok h1, reg_ok h2, fits_0]
  unfold checkE; rw [this]; rfl
theorem ld_ok {rd rs : Int} (h1 : 0 ≤ rd ∧ rd < 32) (h2 : 0 ≤ rs ∧ rs < 32) : checkE (ldI rd rs) = 0 := by
  have : checkOk (ldI rd rs) = true := by
    unfold checkOk
    rw [show (ldI rd rs).op = 14 from rfl, op14.1]
    unfold formOk
    simp [ldI, badIn, reg_ok h1, reg_ok h2, fits_0]
  unfold checkE; rw [this]; rfl
theorem lui_ok {rd : Int} (h1 : 0 ≤ rd ∧ rd < 32) : checkE (luiI rd) = 0 := by
  have : checkOk (luiI rd) = true := by
    unfold checkOk
    rw [show (luiI rd).op = 1 from rfl, op1.1]
    unfold formOk
    simp [luiI, badIn, reg_ok h1, fits_1]
  unfold checkE; rw [this]; rfl
theorem readsP_one (i : InsnV) (h64 : i.op ≠ 64) (h2 : i.rs2 = 0) (h : 0 ≤ i.rs1) : readsP i = if i.rs1 = 0 then [] else [i.rs1] := by
  unfold readsP
  rw [if_neg h64, ms2, h2]
  by_cases e : i.rs1 = 0
  · rw [e]; simp [compact2]
  · rw [if_neg (by omega), compact2, if_neg (fun q => e q.symm), if_neg e]
    simp [e]
/-- One event alone, or none. -/
def oneL (n : Int) : List Int := if n = 0 then [] else [n - 1]
structure Chain (T : List (List Int)) (m : Nat → Int) : Prop where
  len : T.length = 33
  way : T.getD 32 [] = []
  reg : ∀ r, r < 32 → T.getD r [] = oneL (m r)
  zero : m 0 = 0
  pos : ∀ r, 0 ≤ m r
theorem oneL_rising {n : Int} (h : 0 ≤ n) : risingB (oneL n) = true := by
  unfold oneL
  split
  · rfl
  · unfold risingB risingF risingF; rw [decide_eq_true (by omega)]; rfl
theorem oneL_len (n : Int) : (oneL n).length ≤ 1 := by unfold oneL; split <;> simp
theorem Chain.mem {T : List (List Int)} {m : Nat → Int} (h : Chain T m) : ∀ l ∈ T, ∃ n, 0 ≤ n ∧ l = oneL n := fun l hm => by
  obtain ⟨j, hj, e⟩ := List.mem_iff_getElem.1 hm
  have e' : T.getD j [] = l := by rw [List.getD, List.getElem?_eq_getElem hj]; simpa using e
  by_cases h32 : j = 32
  · subst h32; exact ⟨0, Int.le_refl _, by rw [← e', h.way]; rfl⟩
  · have hl := h.len
    exact ⟨m j, h.pos j, by rw [← e']; exact h.reg j (by omega)⟩
theorem Chain.ok {T : List (List Int)} {m : Nat → Int} (h : Chain T m) : taintE T = 0 := by
  rw [taintE_zero h.len]
  refine ⟨by rw [h.reg 0 (by decide), h.zero]; rfl, fun l hm => ?_⟩
  obtain ⟨n, hn, rfl⟩ := h.mem l hm
  exact oneL_rising hn
theorem Chain.short {T : List (List Int)} {m : Nat → Int} (h : Chain T m) : ∀ l ∈ T, l.length ≤ 100000 := fun l hm => by
  obtain ⟨n, hn, rfl⟩ := h.mem l hm
  have := oneL_len n; omega
theorem Chain.start : Chain (List.replicate 33 []) (fun _ => 0) :=
  ⟨by simp, rfl, fun r hr => by rw [List.getD, List.getElem?_replicate, if_pos (by omega)]; rfl, rfl, fun _ => Int.le_refl _⟩
theorem Chain.put {T : List (List Int)} {m : Nat → Int} (h : Chain T m) {i : InsnV} {ev n : Int} (hd : 0 ≤ i.rd ∧ i.rd < 32) (hn : 0 ≤ n) (hg : goesT i = false) (ho : 0 < i.rd → outT T i ev = oneL n) :
    Chain (stepT T i ev) (fun r => if 0 < i.rd ∧ (r : Int) = i.rd then n else m r) := by
  have hl := h.len
  have hw : wayT T i = [] := by unfold wayT; rw [hg, h.way]; rfl
  refine ⟨by rw [stepT_len, hl], by rw [stepT_way hl (by omega), hw], fun r hr => ?_, ?_, fun r => ?_⟩
  · by_cases e : 0 < i.rd ∧ (r : Int) = i.rd
    · rw [if_pos e]
      have := stepT_self (i := i) (ev := ev) hl e.1 (by omega)
      rw [← e.2] at this
      rw [show r = (r : Int).toNat by simp, this]; exact ho e.1
    · rw [if_neg e, stepT_other hr (by omega)]; exact h.reg r hr
  · rw [if_neg (by omega)]; exact h.zero
  · split
    · exact hn
    · exact h.pos r
theorem on_one (T : List (List Int)) {r : Int} (h : 0 ≤ r) (h0 : T.getD 0 [] = []) : onL T (if r = 0 then [] else [r]) = T.getD r.toNat [] := by
  by_cases e : r = 0
  · rw [if_pos e, e]; exact h0.symm
  · rw [if_neg e]; exact onL_one T r
theorem Chain.addi {T : List (List Int)} {m : Nat → Int} (h : Chain T m) {rd rs : Nat} (h1 : rd < 32) (h2 : rs < 32) :
    Chain (stepT T (addiI rd rs) (-1)) (fun r => if 0 < (rd : Int) ∧ (r : Int) = (rd : Int) then m rs else m r) := by
  refine h.put (i := addiI rd rs) (by simp only [addiI]; omega) (h.pos rs) (by unfold goesT; rw [show (addiI rd rs).op = 22 from rfl, op22.1]; rfl) fun _ => ?_
  have hr := readsP_one (addiI rd rs) (show (22 : Int) ≠ 64 by decide) rfl (show (0 : Int) ≤ rs by omega)
  unfold outT isMem bareT
  rw [show (addiI rd rs).op = 22 from rfl, op22.1, op22.2.1, op22.2.2]
  show readT T _ = _
  unfold readT
  rw [hr]
  show onL T (if (rs : Int) = 0 then [] else [(rs : Int)]) = _
  rw [on_one T (by omega) (by rw [h.reg 0 (by decide), h.zero]; rfl)]
  exact h.reg rs h2
theorem Chain.ld {T : List (List Int)} {m : Nat → Int} (h : Chain T m) {rd rs k : Nat} (h1 : rd < 32) (h2 : rs < 32) :
    Chain (stepT T (ldI rd rs) k) (fun r => if 0 < (rd : Int) ∧ (r : Int) = (rd : Int) then (k : Int) + 1 else m r) ∧ addrT T (ldI rd rs) = oneL (m rs) := by
  constructor
  · refine h.put (i := ldI rd rs) (n := (k : Int) + 1) (by simp only [ldI]; omega) (by omega) (by unfold goesT; rw [show (ldI rd rs).op = 14 from rfl, op14.1]; rfl) fun _ => ?_
    unfold outT isMem
    rw [show (ldI rd rs).op = 14 from rfl, op14.2.1, if_pos (by rfl), if_pos (by omega)]
    unfold oneL
    rw [if_neg (by omega)]; simp
  · unfold addrT isMem
    rw [show (ldI rd rs).op = 14 from rfl, op14.2.1, if_pos (by rfl), onL_one]
    exact h.reg rs h2
theorem Chain.lui {T : List (List Int)} {m : Nat → Int} (h : Chain T m) {rd : Nat} (h1 : rd < 32) :
    Chain (stepT T (luiI rd) (-1)) (fun r => if 0 < (rd : Int) ∧ (r : Int) = (rd : Int) then 0 else m r) := by
  refine h.put (i := luiI rd) (by simp only [luiI]; omega) (Int.le_refl _) (by unfold goesT; rw [show (luiI rd).op = 1 from rfl, op1.1]; rfl) fun _ => ?_
  unfold outT isMem bareT
  rw [show (luiI rd).op = 1 from rfl, op1.1, op1.2.1, op1.2.2]
  rfl
end Go.Proofs.YtebeajnaamglkaaDoor
