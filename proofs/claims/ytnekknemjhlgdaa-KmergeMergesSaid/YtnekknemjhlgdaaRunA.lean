/- Walks of slices.IsSortedFunc by fact.Compare, and run.Sorted. -/
import Derived.Test.YtnekknemjhlgdaaFactG
namespace Go.Proofs.Ytnekknemjhlgdaa
open Go.RowKit
set_option linter.unusedVariables false
attribute [local go_sem] fct_get0

theorem chain_take {r : List Int → List Int → Bool} {l : List (List Int)} {k : Nat} (h : chain r (l.drop k) = false) : chain r l = false := by
  induction k generalizing l with
  | zero => exact h
  | succ k ih =>
    cases l with
    | nil => simpa using h
    | cons a l =>
      rw [List.drop_succ_cons] at h
      have := ih h
      cases l with
      | nil => cases this
      | cons b l => rw [chain, this, Bool.and_false]
theorem sortedF_step {l : List Fct} {k : Nat} {f g : Fct} (hf : l[k]? = some f) (hg : l[k + 1]? = some g) (h : chain (fun a b => !lessK b a) ((keysOf l).drop (k + 1)) = true) :
    chain (fun a b => !lessK b a) ((keysOf l).drop k) = !lessK g.ks.l f.ks.l := by
  rw [chain_drop (keys_get hf) (keys_get hg), h, Bool.and_true]

end Go.Proofs.Ytnekknemjhlgdaa
