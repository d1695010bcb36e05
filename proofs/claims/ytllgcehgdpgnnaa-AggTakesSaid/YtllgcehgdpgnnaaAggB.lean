/- The document's All (over a contract of its Join), and the chapter's example. -/
import Derived.Test.YtllgcehgdpgnnaaAggO
import Derived.Test.YtllgcehgdpgnnaaMem
import Derived.Deep.DeepCutAuto
namespace Go.Proofs.Ytllgcehgdpgnnaa
open Go.RowKit
set_option linter.unusedVariables false

theorem rowAg : RowTy Try.prog 92 10 := ⟨⟨_, Try.underlying92, rfl⟩, by kernel_rfl⟩
theorem rowPart : RowTy Try.prog 89 3 := ⟨⟨_, Try.underlying89, rfl⟩, by kernel_rfl⟩
theorem ag_one (m : Ag) : m.cs.all (·.oneCell') = true := by simp [Ag.cs, Value.oneCell']
theorem ag_range {w : World} {A : Option Addr} {n k : Nat} {l : List Ag} (h : Rd w 10 A n (agsCells l)) (hk : k < n) :
    ∃ b o a, A = some ⟨b, o, none⟩ ∧ l[k]? = some a ∧ w.rangeAt b (o + k * 10) a.cs.toList := by
  obtain ⟨b, o, a, e, ha, hc⟩ := h.ag hk
  refine ⟨b, o, a, e, ha, fun j v hv => ?_⟩
  have hj : j < 10 := by
    rcases Nat.lt_or_ge j 10 with h' | h'
    · exact h'
    · rw [List.getElem?_eq_none (by simp [Ag.cs]; omega)] at hv; cases hv
  rw [hc j hj]
  simpa using hv

end Go.Proofs.Ytllgcehgdpgnnaa
