/- The walk of the law DimChecks. -/
import Derived.Test.YtnekknemjhlgdaaDimA
import Derived.Test.YtnekknemjhlgdaaDimT
import Derived.Test.YtnekknemjhlgdaaDimZ
import Derived.Test.YtnekknemjhlgdaaDimY
import Derived.Test.YtnekknemjhlgdaaDimX
namespace Go.Proofs.Ytnekknemjhlgdaa
open Go.RowKit
set_option linter.unusedVariables false
set_option linter.unusedSimpArgs false

theorem dmtake_put {d : DC} (h : dimErr d = 0) : dmtake (dimPut d) = (d, 0) := by
  unfold dmtake
  have := pdim_put h []
  rw [List.append_nil] at this
  rw [this]
  simp
theorem flat_len {α : Type} {l : List α} {f : α → List UInt8} {m : Nat} (h : ∀ x ∈ l, (f x).length ≤ m) : (l.flatMap f).length ≤ m * l.length := by
  induction l with
  | nil => simp
  | cons a r ih =>
    rw [List.flatMap_cons, List.length_append, List.length_cons, Nat.mul_add]
    have h1 := h a (List.mem_cons_self ..)
    have h2 := ih fun x hx => h x (List.mem_cons_of_mem _ hx)
    omega
theorem allOk_mem {trs : List TC} (h : AllOk trs) {t : TC} (ht : t ∈ trs) : ∃ above, tierErr t above = 0 := by
  obtain ⟨k, hk⟩ := List.mem_iff_getElem?.1 ht
  exact ⟨_, allOk_at h hk⟩
theorem dimPut_len {d : DC} (h : dimErr d = 0) : (dimPut d).length ≤ 50000 := by
  obtain ⟨h1, h2, h3, h4⟩ := dimErr_zero h
  have h5 := isName_len h1
  have h6 := nput_le9 d.nm.length
  have h7 := nput_le9 d.trs.length
  have h8 : (d.trs.reverse.flatMap tierPut).length ≤ 10000 * d.trs.reverse.length := flat_len fun t ht => by
    obtain ⟨a, ha⟩ := allOk_mem (dimFrom_ok h4) (List.mem_reverse.1 ht)
    exact tierPut_len ha
  rw [List.length_reverse] at h8
  unfold dimPut ptext
  simp only [List.length_append]
  omega

end Go.Proofs.Ytnekknemjhlgdaa
