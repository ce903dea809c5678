/- The walk of a hart's ask at whatever valid instruction. Conditions: the work's cells lie as the structure WK says. -/
import Derived.Test.YtbglinhglnbfmaaGreatDoorHartAsk1
import Derived.Test.YtbglinhglnbfmaaGreatDoorHartAsk2
import Derived.Test.YtbglinhglnbfmaaGreatDoorHartAsk3
set_option linter.unusedVariables false
namespace Go.Proofs.YtbglinhglnbfmaaGreatDoor
open Go.RowKit
theorem ask_any (b : Nat) (h : HartV) (op rd : Int) (r1 r2 : Nat) (imm : Int) (aq rl : Bool) (pred succ : Int) (w : World) (hW : WK b h ⟨op, rd, r1, r2, imm, aq, rl, pred, succ⟩ w) (ht : Tabs w) (hop : op ≤ 9223372036854775807) (hr1 : r1 < 32) (hr2 : r2 < 32) :
    Calls Tryz.prog 24 #[.pointer (some ⟨b, 0, none⟩)] w fun e w' => e = (if askE h ⟨op, rd, r1, r2, imm, aq, rl, pred, succ⟩ = 0 then .returned (.agg (askV h ⟨op, rd, r1, r2, imm, aq, rl, pred, succ⟩).cells) else .panicked (thrown (askE h ⟨op, rd, r1, r2, imm, aq, rl, pred, succ⟩))) ∧ Below w.heap.size w w' := by
  cases hn : nextR h ⟨op, rd, r1, r2, imm, aq, rl, pred, succ⟩ with
  | none =>
    have e : askE h ⟨op, rd, r1, r2, imm, aq, rl, pred, succ⟩ = 6 := by unfold askE; rw [if_pos hn]
    rw [e, if_neg (by decide)]
    exact ask_next b h op rd r1 r2 imm aq rl pred succ w hW ht hop hr1 hr2 hn
  | some n =>
    have hnn : ¬ nextR h ⟨op, rd, r1, r2, imm, aq, rl, pred, succ⟩ = none := by rw [hn]; exact fun hh => by cases hh
    by_cases hf : (opOf op).form = 4
    · by_cases ha : addrE h ⟨op, rd, r1, r2, imm, aq, rl, pred, succ⟩ = 0
      · have e : askE h ⟨op, rd, r1, r2, imm, aq, rl, pred, succ⟩ = 0 := by unfold askE; rw [if_neg hnn, if_pos (.inl hf)]; exact ha
        have v : askV h ⟨op, rd, r1, r2, imm, aq, rl, pred, succ⟩ = ⟨1, h.x r1 + bv imm, 0#64, 0, false, false, 0, 0⟩ := by unfold askV; rw [if_pos hf]; rfl
        rw [if_pos e, v]
        exact ask_4 b h op rd r1 r2 imm aq rl pred succ w hW ht hop hr1 hr2 n hn hf ha
      · have e : askE h ⟨op, rd, r1, r2, imm, aq, rl, pred, succ⟩ = addrE h ⟨op, rd, r1, r2, imm, aq, rl, pred, succ⟩ := by unfold askE; rw [if_neg hnn, if_pos (.inl hf)]
        rw [e, if_neg ha]
        exact ask_4x b h op rd r1 r2 imm aq rl pred succ w hW ht hop hr1 hr2 n _ ha hn hf rfl
    have h4 := hf
    clear hf
    by_cases hf : (opOf op).form = 5
    · by_cases ha : addrE h ⟨op, rd, r1, r2, imm, aq, rl, pred, succ⟩ = 0
      · have e : askE h ⟨op, rd, r1, r2, imm, aq, rl, pred, succ⟩ = 0 := by unfold askE; rw [if_neg hnn, if_pos (.inr (.inl hf))]; exact ha
        have v : askV h ⟨op, rd, r1, r2, imm, aq, rl, pred, succ⟩ = ⟨2, h.x r1 + bv imm, h.x r2, 0, false, false, 0, 0⟩ := by unfold askV; rw [if_neg h4, if_pos hf]; rfl
        rw [if_pos e, v]
        exact ask_5 b h op rd r1 r2 imm aq rl pred succ w hW ht hop hr1 hr2 n hn hf ha
      · have e : askE h ⟨op, rd, r1, r2, imm, aq, rl, pred, succ⟩ = addrE h ⟨op, rd, r1, r2, imm, aq, rl, pred, succ⟩ := by unfold askE; rw [if_neg hnn, if_pos (.inr (.inl hf))]
        rw [e, if_neg ha]
        exact ask_5x b h op rd r1 r2 imm aq rl pred succ w hW ht hop hr1 hr2 n _ ha hn hf rfl
    have h5 := hf
    clear hf
    by_cases hf : (opOf op).form = 11
    · by_cases ha : addrE h ⟨op, rd, r1, r2, imm, aq, rl, pred, succ⟩ = 0
      · have e : askE h ⟨op, rd, r1, r2, imm, aq, rl, pred, succ⟩ = 0 := by unfold askE; rw [if_neg hnn, if_pos (.inr (.inr (.inl hf)))]; exact ha
        have v : askV h ⟨op, rd, r1, r2, imm, aq, rl, pred, succ⟩ = ⟨3, h.x r1 + bv imm, 0#64, 0, aq, rl, 0, 0⟩ := by unfold askV; rw [if_neg h4, if_neg h5, if_pos hf]; rfl
        rw [if_pos e, v]
        exact ask_11 b h op rd r1 r2 imm aq rl pred succ w hW ht hop hr1 hr2 n hn hf ha
      · have e : askE h ⟨op, rd, r1, r2, imm, aq, rl, pred, succ⟩ = addrE h ⟨op, rd, r1, r2, imm, aq, rl, pred, succ⟩ := by unfold askE; rw [if_neg hnn, if_pos (.inr (.inr (.inl hf)))]
        rw [e, if_neg ha]
        exact ask_11x b h op rd r1 r2 imm aq rl pred succ w hW ht hop hr1 hr2 n _ ha hn hf rfl
    have h11 := hf
    clear hf
    by_cases hf : (opOf op).form = 12
    · by_cases h69 : op = 69
      · by_cases ha : addrE h ⟨op, rd, r1, r2, imm, aq, rl, pred, succ⟩ = 0
        · have e : askE h ⟨op, rd, r1, r2, imm, aq, rl, pred, succ⟩ = 0 := by unfold askE; rw [if_neg hnn, if_pos (.inr (.inr (.inr hf)))]; exact ha
          have v : askV h ⟨op, rd, r1, r2, imm, aq, rl, pred, succ⟩ = ⟨4, h.x r1 + bv imm, h.x r2, 0, aq, rl, 0, 0⟩ := by unfold askV; rw [if_neg h4, if_neg h5, if_neg h11, if_pos hf, if_pos h69]; rfl
          rw [if_pos e, v]
          exact ask_69 b h op rd r1 r2 imm aq rl pred succ w hW ht hop hr1 hr2 n hn hf ha h69
        · have e : askE h ⟨op, rd, r1, r2, imm, aq, rl, pred, succ⟩ = addrE h ⟨op, rd, r1, r2, imm, aq, rl, pred, succ⟩ := by unfold askE; rw [if_neg hnn, if_pos (.inr (.inr (.inr hf)))]
          rw [e, if_neg ha]
          exact ask_12x b h op rd r1 r2 imm aq rl pred succ w hW ht hop hr1 hr2 n _ ha hn hf rfl
      · by_cases ha : addrE h ⟨op, rd, r1, r2, imm, aq, rl, pred, succ⟩ = 0
        · have e : askE h ⟨op, rd, r1, r2, imm, aq, rl, pred, succ⟩ = 0 := by unfold askE; rw [if_neg hnn, if_pos (.inr (.inr (.inr hf)))]; exact ha
          have v : askV h ⟨op, rd, r1, r2, imm, aq, rl, pred, succ⟩ = ⟨5, h.x r1 + bv imm, h.x r2, op, aq, rl, 0, 0⟩ := by unfold askV; rw [if_neg h4, if_neg h5, if_neg h11, if_pos hf, if_neg h69]; rfl
          rw [if_pos e, v]
          exact ask_12 b h op rd r1 r2 imm aq rl pred succ w hW ht hop hr1 hr2 n hn hf ha h69
        · have e : askE h ⟨op, rd, r1, r2, imm, aq, rl, pred, succ⟩ = addrE h ⟨op, rd, r1, r2, imm, aq, rl, pred, succ⟩ := by unfold askE; rw [if_neg hnn, if_pos (.inr (.inr (.inr hf)))]
          rw [e, if_neg ha]
          exact ask_12x b h op rd r1 r2 imm aq rl pred succ w hW ht hop hr1 hr2 n _ ha hn hf rfl
    have h12 := hf
    clear hf
    have hm : ¬ ((opOf op).form = 4 ∨ (opOf op).form = 5 ∨ (opOf op).form = 11 ∨ (opOf op).form = 12) := by omega
    by_cases hf : (opOf op).form = 10
    · by_cases h65 : op = 65
      · have e : askE h ⟨op, rd, r1, r2, imm, aq, rl, pred, succ⟩ = 2 := by unfold askE; rw [if_neg hnn, if_neg hm, if_pos hf, if_pos h65]
        rw [e, if_neg (by decide)]
        exact ask_10b b h op rd r1 r2 imm aq rl pred succ w hW ht hop hr1 hr2 n hn hf h65
      · by_cases h0 : un (h.x 17) = 0
        · have e : askE h ⟨op, rd, r1, r2, imm, aq, rl, pred, succ⟩ = 1 := by unfold askE; rw [if_neg hnn, if_neg hm, if_pos hf, if_neg h65, if_pos h0]
          rw [e, if_neg (by decide)]
          exact ask_10h b h op rd r1 r2 imm aq rl pred succ w hW ht hop hr1 hr2 n hn hf h65 h0
        · by_cases h1 : un (h.x 17) = 1
          · have e : askE h ⟨op, rd, r1, r2, imm, aq, rl, pred, succ⟩ = 0 := by unfold askE; rw [if_neg hnn, if_neg hm, if_pos hf, if_neg h65, if_neg h0, if_pos h1]
            have v : askV h ⟨op, rd, r1, r2, imm, aq, rl, pred, succ⟩ = ⟨7, 0#64, h.x 10, 0, false, false, 0, 0⟩ := by unfold askV; rw [if_neg h4, if_neg h5, if_neg h11, if_neg h12, if_neg (by rw [hf]; decide), if_pos hf]
            rw [if_pos e, v]
            exact ask_10o b h op rd r1 r2 imm aq rl pred succ w hW ht hop hr1 hr2 n hn hf h65 h1
          · have e : askE h ⟨op, rd, r1, r2, imm, aq, rl, pred, succ⟩ = 3 := by unfold askE; rw [if_neg hnn, if_neg hm, if_pos hf, if_neg h65, if_neg h0, if_neg h1]
            rw [e, if_neg (by decide)]
            exact ask_10c b h op rd r1 r2 imm aq rl pred succ w hW ht hop hr1 hr2 n hn hf h65 h0 h1
    have h10 := hf
    clear hf
    have e : askE h ⟨op, rd, r1, r2, imm, aq, rl, pred, succ⟩ = 0 := by unfold askE; rw [if_neg hnn, if_neg hm, if_neg h10]
    rw [if_pos e]
    by_cases hf : (opOf op).form = 9
    · have v : askV h ⟨op, rd, r1, r2, imm, aq, rl, pred, succ⟩ = ⟨6, 0#64, 0#64, 0, false, false, pred, succ⟩ := by unfold askV; rw [if_neg h4, if_neg h5, if_neg h11, if_neg h12, if_pos hf]
      rw [v]
      exact ask_9 b h op rd r1 r2 imm aq rl pred succ w hW ht hop hr1 hr2 n hn hf
    have h9 := hf
    clear hf
    have hf : (opOf op).form ≠ 4 ∧ (opOf op).form ≠ 5 ∧ (opOf op).form ≠ 9 ∧ (opOf op).form ≠ 10 ∧ (opOf op).form ≠ 11 ∧ (opOf op).form ≠ 12 := ⟨h4, h5, h9, h10, h11, h12⟩
    by_cases hk : op = 22 ∧ rd = 0 ∧ 0 < imm
    · have v : askV h ⟨op, rd, r1, r2, imm, aq, rl, pred, succ⟩ = ⟨8, 0#64, h.x r1, imm, false, false, 0, 0⟩ := by unfold askV; rw [if_neg h4, if_neg h5, if_neg h11, if_neg h12, if_neg h9, if_neg h10, if_pos hk]; rfl
      rw [v]
      exact ask_0m b h op rd r1 r2 imm aq rl pred succ w hW ht hop hr1 hr2 n hn hf hk.1 hk.2.1 hk.2.2
    · have v : askV h ⟨op, rd, r1, r2, imm, aq, rl, pred, succ⟩ = ⟨0, 0#64, 0#64, 0, false, false, 0, 0⟩ := by unfold askV; rw [if_neg h4, if_neg h5, if_neg h11, if_neg h12, if_neg h9, if_neg h10, if_neg hk]
      rw [v]
      by_cases h22 : op = 22
      · by_cases hrd : rd = 0
        · exact ask_0c b h op rd r1 r2 imm aq rl pred succ w hW ht hop hr1 hr2 n hn hf h22 hrd (fun hh => hk ⟨h22, hrd, hh⟩)
        · exact ask_0b b h op rd r1 r2 imm aq rl pred succ w hW ht hop hr1 hr2 n hn hf h22 hrd
      · exact ask_0a b h op rd r1 r2 imm aq rl pred succ w hW ht hop hr1 hr2 n hn hf h22
end Go.Proofs.YtbglinhglnbfmaaGreatDoor
