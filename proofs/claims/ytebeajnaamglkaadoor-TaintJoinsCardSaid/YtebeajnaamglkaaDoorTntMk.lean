/- Plain: a map that counts numbers, as the list of its keys. No program in sight. Conditions: none. -/
import Derived.Test.YtebeajnaamglkaaDoorTntJn
import Derived.Maps.Own
import Derived.Maps.OwnOps
import Derived.Maps.OwnSet
import Derived.Maps.Views
set_option linter.unusedSimpArgs false
set_option linter.unusedVariables false
namespace Go.Proofs.YtebeajnaamglkaaDoor
open Go.RowKit Go.Maps
def addK (L : List Int) (x : Int) : List Int := if x ∈ L then L else L ++ [x]
theorem addK_nd {L : List Int} (h : L.Nodup) (x : Int) : (addK L x).Nodup := by
  unfold addK
  split
  · exact h
  · rename_i hx
    rw [List.nodup_append]
    refine ⟨h, by simp, fun a ha b hb => ?_⟩
    rw [List.mem_singleton] at hb
    intro e
    exact hx (by rw [← hb, ← e]; exact ha)
theorem mem_addK {L : List Int} {x y : Int} : y ∈ addK L x ↔ y ∈ L ∨ y = x := by
  unfold addK
  split
  · rename_i hx
    constructor
    · exact .inl
    · rintro (h | rfl)
      · exact h
      · exact hx
  · simp
theorem mem_addKs : ∀ (l L : List Int) (y : Int), y ∈ l.foldl addK L ↔ y ∈ L ∨ y ∈ l
  | [], L, y => by simp
  | x :: l, L, y => by rw [List.foldl_cons, mem_addKs l, mem_addK]; simp [or_assoc]
theorem addKs_nd : ∀ (l L : List Int), L.Nodup → (l.foldl addK L).Nodup
  | [], _, h => h
  | x :: l, L, h => addKs_nd l _ (addK_nd h x)
structure MK (D : DataW Unit) (L : List Int) : Prop where
  tidy : Maps.Tidy D
  at_ : ∀ x, D.atKey (.int .i64 x) (.lit (.int .i64 0)) = .lit (.int .i64 (if x ∈ L then 1 else 0))
  has : ∀ x, Maps.has D (.int .i64 x) = decide (x ∈ L)
  size : Maps.size D = L.length
  nd : L.Nodup
theorem MK.start : MK (.map []) [] := ⟨Maps.tidy_empty, fun x => by simp [DataW.atKey], fun x => by simp [Maps.has_eq], by rw [Maps.size_eq]; rfl, List.nodup_nil⟩
theorem keyLit (x : Int) : WideAt.IsKeyLit (.int .i64 x) := by trivial
theorem key_ne {x y : Int} (h : y ≠ x) : (Lit.int .i64 y) ≠ .int .i64 x := fun e => h (by injection e)
theorem MK.put {D : DataW Unit} {L : List Int} (h : MK D L) (x : Int) : MK (D.put (.int .i64 x) (.lit (.int .i64 1))) (addK L x) := by
  refine ⟨h.tidy.put (keyLit x) _, fun y => ?_, fun y => ?_, ?_, addK_nd h.nd x⟩
  · by_cases e : y = x
    · subst e
      rw [Maps.atKey_put_same h.tidy.isMap (keyLit y), if_pos (mem_addK.2 (.inr rfl))]
    · rw [Maps.atKey_put_other (key_ne e), h.at_]
      congr 2
      by_cases hy : y ∈ L
      · rw [if_pos hy, if_pos (mem_addK.2 (.inl hy))]
      · rw [if_neg hy, if_neg (fun q => (mem_addK.1 q).elim hy e)]
  · by_cases e : y = x
    · subst e
      rw [Maps.has_put_same h.tidy.isMap (keyLit y), decide_eq_true (mem_addK.2 (.inr rfl))]
    · rw [Maps.has_put_other (key_ne e), h.has]
      exact decide_eq_decide.2 ⟨fun q => mem_addK.2 (.inl q), fun q => (mem_addK.1 q).elim id (fun q => absurd q e)⟩
  · rw [Maps.size_put h.tidy, h.has, h.size]
    unfold addK
    by_cases hx : x ∈ L
    · rw [if_pos (by simpa using hx), if_pos hx]
    · rw [if_neg (by simpa using hx), if_neg hx]; simp
theorem take_fold {l : List Int} {k : Nat} {x : Int} (L : List Int) (h : l[k]? = some x) : (l.take (k + 1)).foldl addK L = addK ((l.take k).foldl addK L) x := by
  have hk : k < l.length := (List.getElem?_eq_some_iff.1 h).1
  rw [List.take_succ_eq_append_getElem hk, List.foldl_append]
  rw [List.getElem?_eq_getElem hk] at h
  rw [Option.some.inj h]; rfl
/-- As many keys as numbers of the join. -/
theorem keys_len {a b : List Int} {c : Int} (ha : risingF c a = true) (hb : risingF c b = true) : (b.foldl addK (a.foldl addK [])).length = (mergeL a b).length :=
  nodup_len _ _ (addKs_nd b _ (addKs_nd a _ List.nodup_nil)) (rising_nodup (rising_mergeL ha hb)) fun x => by rw [mem_addKs, mem_addKs, mem_mergeL]; simp
end Go.Proofs.YtebeajnaamglkaaDoor
