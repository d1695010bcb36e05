/- A struct stored into a row of the call's own. -/
import Derived.Test.YtlclllkjnhgbjaaBb
namespace Go.Proofs.Ytlclllkjnhgbjaa
open Go.RowKit
set_option linter.unusedVariables false

theorem flat_set {α : Type} [Cel α] (l : List α) (k : Nat) (f : α) (hk : k < l.length) (j : Nat) :
    ((l.set k f).flatMap Cel.cells)[j]? = if k * Cel.size α ≤ j ∧ j < k * Cel.size α + Cel.size α then (Cel.cells f)[j - k * Cel.size α]? else (l.flatMap Cel.cells)[j]? := by
  have hp : 0 < Cel.size α := Cel.pos
  by_cases hj : j < l.length * Cel.size α
  · have hi : j / Cel.size α < l.length := Nat.div_lt_of_lt_mul (by rw [Nat.mul_comm]; exact hj)
    have hjm : j / Cel.size α * Cel.size α + j % Cel.size α = j := by rw [Nat.mul_comm]; exact Nat.div_add_mod j _
    have hr := Nat.mod_lt j hp
    by_cases e : k = j / Cel.size α
    · have hg : (l.set k f)[j / Cel.size α]? = some f := by rw [← e]; exact List.getElem?_set_self hk
      have h1 := cells_get (l.set k f) _ _ _ hg hr
      rw [hjm] at h1
      rw [h1, if_pos (by rw [e]; omega)]
      congr 1
      rw [e]
      omega
    · have hg : (l.set k f)[j / Cel.size α]? = some (l[j / Cel.size α]'hi) := by rw [List.getElem?_set_ne e, List.getElem?_eq_getElem hi]
      have h1 := cells_get (l.set k f) _ _ _ hg hr
      have h2 := cells_get l _ _ _ (List.getElem?_eq_getElem hi) hr
      rw [hjm] at h1 h2
      rw [h1, h2, if_neg]
      intro ⟨h3, h4⟩
      apply e
      have h5 : k * Cel.size α + Cel.size α = (k + 1) * Cel.size α := by rw [Nat.add_mul, Nat.one_mul]
      rw [h5] at h4
      exact (Nat.div_eq_of_lt_le h3 h4).symm
  · have h5 : k * Cel.size α + Cel.size α = (k + 1) * Cel.size α := by rw [Nat.add_mul, Nat.one_mul]
    have h6 : (k + 1) * Cel.size α ≤ l.length * Cel.size α := Nat.mul_le_mul_right _ hk
    rw [List.getElem?_eq_none (by rw [cells_len, List.length_set]; omega), List.getElem?_eq_none (l := l.flatMap Cel.cells) (by rw [cells_len]; omega), if_neg (by omega)]

section
variable {α : Type} [Cel α] {w : World} {base : Nat} {e : TypeId} {g n c : Nat} {l : List α}
end

end Go.Proofs.Ytlclllkjnhgbjaa
