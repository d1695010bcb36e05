/- The walk of the law TierChecks. -/
import Derived.Test.YtnekknemjhlgdaaBf
namespace Go.Proofs.Ytnekknemjhlgdaa
open Go.RowKit
set_option linter.unusedVariables false
set_option linter.unusedSimpArgs false

theorem trtake_put {t : TC} {above : Int} (ha : above ≤ 9223372036854775807) (h : tierErr t above = 0) : trtake above (tierPut t) = (t, 0) := by
  unfold trtake
  have := ptier_put ha h []
  rw [List.append_nil] at this
  rw [this]
  simp
theorem upPut_len (up : List Int) : (upPut up).length ≤ 9 * up.length := by
  unfold upPut
  induction up with
  | nil => simp
  | cons x r ih =>
    rw [List.flatMap_cons, List.length_append, List.length_cons]
    have := nput_le9 x.toNat
    omega
theorem tierPut_len {t : TC} {above : Int} (h : tierErr t above = 0) : (tierPut t).length ≤ 10000 := by
  obtain ⟨e1, _, e3, e4, _⟩ := tierErr_zero h
  have e5 := tierErr_up h
  have e6 := isName_len e1
  have e7 := tput_len e4
  have e8 := upPut_len t.up
  have e9 := nput_le9 t.nm.length
  unfold tierPut ptext
  simp only [List.length_append]
  omega

end Go.Proofs.Ytnekknemjhlgdaa
