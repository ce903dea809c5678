/- The walk of taint.on: what some registers hang on. Conditions: the lists are not longer than a hundred thousand numbers, the registers are at most four, each from 0 to 31. -/
import Derived.Test.YtebeajnaamglkaaDoorTntOw
set_option linter.unusedSimpArgs false
set_option linter.unusedVariables false
namespace Go.Proofs.YtebeajnaamglkaaDoor
open Go.RowKit
theorem mergeF_len : ∀ (n : Nat) (a b : List Int), (mergeF n a b).length ≤ a.length + b.length
  | 0, a, b => by simp [mergeF]
  | n + 1, [], b => by simp [mergeF]
  | n + 1, x :: a, [] => by simp [mergeF]
  | n + 1, x :: a, y :: b => by
    unfold mergeF
    split
    · have := mergeF_len n a (y :: b); simp at this ⊢; omega
    · split
      · have := mergeF_len n (x :: a) b; simp at this ⊢; omega
      · have := mergeF_len n a b; simp at this ⊢; omega
theorem mergeL_len (a b : List Int) : (mergeL a b).length ≤ a.length + b.length := mergeF_len _ a b
/-- What some registers hang on. -/
def onF (T : List (List Int)) (acc : List Int) (rs : List Int) : List Int := rs.foldl (fun acc r => mergeL acc (T.getD r.toNat [])) acc
def onL (T : List (List Int)) (rs : List Int) : List Int := onF T [] rs
set_option maxRecDepth 100000 in
set_option maxHeartbeats 8000000 in
theorem on_any (b : Nat) (cs : List Value) (T : List (List Int)) (P : Nat → Prop) (v : Value) (rs : List Int) (w : World) (hc : w.rangeAt b 0 cs) (hb : b < w.heap.size) (h : TS w P cs T) (hlen : ∀ l ∈ T, l.length ≤ 100000)
    (hv : RL w w.heap.size v rs) (hrs : ∀ r ∈ rs, 0 ≤ r ∧ r < 32) (hn : rs.length ≤ 4) :
    Calls Tryd.prog 29 #[.pointer (some ⟨b, 0, none⟩), v] w (NewRL w (onL T rs)) := by
  obtain ⟨A, c, rfl, v1, v2, v3⟩ := hv.form
  unfold maxLen at v2
  have hrow : Hid (∀ r : Int, 0 ≤ r → r < 32 → ∃ u l, w.cell? ⟨b, r.toNat, none⟩ = some u ∧ RP w P u l ∧ l.length ≤ 100000 ∧ T.getD r.toNat [] = l) := Lib.hid fun r h0 h1 => by
    obtain ⟨u, l, e1, e2, e3, e4⟩ := h.get r.toNat (by omega)
    exact ⟨u, l, by have := hc r.toNat u e1; rwa [Nat.zero_add] at this, e4, hlen l (List.mem_of_getElem? e2), e3⟩
  obtain ⟨R, hR⟩ : ∃ R, onL T rs = R := ⟨_, rfl⟩
  rw [hR]
  replace hR := Lib.hid hR
  replace v3 := Lib.hid v3
  replace hrs := Lib.hid hrs
  clear hv hc h hlen
  go_enter Tryd.func29, Tryd.ntmps29
  go_wp2_with fail
  go_loopw [5, 10] (fun out i wr => ∃ (k : Nat) (acc : List Int) (A0 : Option Addr) (c0 : Nat), k ≤ rs.length ∧ i = .int .i64 k ∧ out = .slice A0 acc.length c0 ∧ RP wr (fun b => w.heap.size ≤ b) (.slice A0 acc.length c0) acc ∧ Below w.heap.size w wr ∧ acc.length ≤ k * 100000 ∧ Hid (onF T acc (rs.drop k) = R)) (fun _ i _ => rs.length - (intOf i).toNat)
  case atStart => exact ⟨0, [], none, 0, Nat.zero_le _, rfl, rfl, RP.nil _ _, Below.refl _ _, Nat.zero_le _, Lib.hid hR.out⟩
  case round =>
    obtain ⟨k, acc, A0, c0, hk, rfl, rfl, ho, hbw, hac, hr⟩ := hrel
    by_cases hlt : k < rs.length
    · obtain ⟨r, hx, hd⟩ := drop_at hlt
      obtain ⟨b', o, rfl, hb', hcl⟩ := v3.out.resolve_left (fun e => by rw [e] at hlt; exact absurd hlt (Nat.not_lt_zero _))
      have hcr : wr.cell? ⟨b', o + k, none⟩ = some (.int .i64 r) := (hbw.cell (p := ⟨b', o + k, none⟩) hb').trans (hcl k r hx)
      obtain ⟨r0, r1⟩ := hrs.out r (List.mem_of_getElem? hx)
      obtain ⟨u, l, e1, e2, e3, e4⟩ := hrow.out r r0 r1
      have hcu : wr.cell? ⟨b, r.toNat, none⟩ = some u := (hbw.cell (p := ⟨b, r.toNat, none⟩) hb).trans e1
      have hMg := Lib.hid (merge_any (.slice A0 acc.length c0) u acc l wr ho.rl (e2.below hbw).rl (by omega))
      have hml := mergeL_len acc l
      have hr2 : Hid (onF T (mergeL acc l) (rs.drop (k + 1)) = R) := Lib.hid (by rw [← hr.out, hd, ← e4]; rfl)
      replace hml : (mergeL acc l).length ≤ (k + 1) * 100000 := by omega
      generalize mergeL acc l = M at hMg hml hr2
      replace hd := Lib.hid hd
      replace hcl := Lib.hid hcl
      replace hac := Lib.hid hac
      clear hx e1 e2 e3 e4 ho
      go_wp2_with (go_at_call 32; refine hMg.out.mono ?_; rintro e w5 ⟨⟨v', rfl, hr5⟩, hb5⟩; obtain ⟨A', c', hve, q1, q2, q3⟩ := hr5.form; obtain rfl := hve)
      go_roundw
      case rel => exact ⟨k + 1, M, A', c', by omega, by go_num, rfl, hr5.mono fun b hb => Nat.le_trans hbw.size hb, hbw.trans (hb5.mono hbw.size), hml, hr2⟩
      case measure => simp [intOf]; omega
    · obtain rfl : k = rs.length := by omega
      have hRe : Hid (R = acc) := Lib.hid (by rw [← hr.out, List.drop_length]; rfl)
      go_wp2_with fail
      go_ret
      exact ⟨⟨_, rfl, by rw [hRe.out]; exact ho⟩, hbw⟩
end Go.Proofs.YtebeajnaamglkaaDoor
