/- Whole, plain. -/
import Derived.Test.YtlclllkjnhgbjaaAreJ
namespace Go.Proofs.Ytlclllkjnhgbjaa
open Go.RowKit
set_option linter.unusedVariables false
set_option linter.unusedSimpArgs false


/-- What nodes say that Add took, one behind the other. -/
def GoodN (xs : List (List Int)) (ms : Int) (l : List NC) : Prop := ∀ k n, l[k]? = some n → nodeErr xs ms n = 0 ∧ leadsN xs.length (l.take k) n = true
theorem goodN_nil (xs : List (List Int)) (ms : Int) : GoodN xs ms [] := fun k n h => by simp at h
theorem goodN_snoc {xs : List (List Int)} {ms : Int} {l : List NC} {n : NC} (h : GoodN xs ms l) (h1 : nodeErr xs ms n = 0) (h2 : leadsN xs.length l n = true) : GoodN xs ms (l ++ [n]) := fun k m hk => by
  rcases Nat.lt_trichotomy k l.length with hl | hl | hl
  · rw [List.getElem?_append_left hl] at hk
    have := h k m hk
    rw [List.take_append_of_le_length (by omega)]
    exact this
  · subst hl
    rw [List.getElem?_append_right (Nat.le_refl _), Nat.sub_self] at hk
    injection hk with hk
    subst hk
    rw [List.take_append_of_le_length (Nat.le_refl _), List.take_length]
    exact ⟨h1, h2⟩
  · rw [List.getElem?_append_right (by omega)] at hk
    have : k - l.length < 1 := by have := (List.getElem?_eq_some_iff.1 hk).1; simpa using this
    omega
theorem goodN_dim {xs : List (List Int)} {ms : Int} {l : List NC} (h : GoodN xs ms l) : ∀ n ∈ l, 0 ≤ n.dim ∧ n.dim < xs.length := fun n hn => by
  obtain ⟨k, hk⟩ := List.mem_iff_getElem?.1 hn
  exact (nodeErr_cells (h k n hk).1).1
theorem goodN_ch {xs : List (List Int)} {ms : Int} {l : List NC} (h : GoodN xs ms l) {k : Nat} {n : NC} (hk : l[k]? = some n) (hd : n.dim ≠ (xs.length : Int) - 1) : ∀ c ∈ eachN n, 0 ≤ c.ch ∧ c.ch < k ∧ ∃ m, l[c.ch.toNat]? = some m ∧ m.dim = n.dim + 1 := fun c hc => by
  obtain ⟨h1, h2⟩ := h k n hk
  have h3 := cellOk_ch ((nodeErr_cells h1).2 c hc)
  unfold leadsN at h2
  rw [decide_eq_false hd, Bool.false_or, List.all_eq_true] at h2
  have h4 := h2 c hc
  unfold aheadC at h4
  rw [List.getElem?_take] at h4
  by_cases hl : c.ch.toNat < k
  · rw [if_pos hl] at h4
    cases hm : l[c.ch.toNat]? with
    | none => rw [hm] at h4; cases h4
    | some m => rw [hm] at h4; exact ⟨h3, by omega, m, rfl, of_decide_eq_true h4⟩
  · rw [if_neg hl] at h4; cases h4
/-- Where a number stands in a row, from k on. -/
def idxI (v : Int) : List Int → Int → Int
  | [], _ => -1
  | x :: l, k => if v = x then k else idxI v l (k + 1)
theorem idxI_neg {v : Int} : ∀ {l : List Int} {k : Int}, 0 ≤ k → (idxI v l k < 0 ↔ v ∉ l)
  | [], k, h => by simp [idxI]
  | x :: l, k, h => by
    rw [idxI]
    by_cases e : v = x
    · rw [if_pos e]; simp [e]; omega
    · rw [if_neg e, idxI_neg (by omega)]; simp [e]
theorem drop_consI {α : Type} {l : List α} {i : Nat} {x : α} (h : l[i]? = some x) : l.drop i = x :: l.drop (i + 1) := by
  have hl := (List.getElem?_eq_some_iff.1 h).1
  rw [List.drop_eq_getElem_cons hl, (List.getElem?_eq_some_iff.1 h).2]
/-- Led to so far: by the first nodes, and by the first cells of the next one. -/
def ledSo (nd : Nat) (l : List NC) (k j i : Nat) : Bool := ledTo nd (l.take k) i || (match l[k]? with | none => false | some n => decide (n.dim ≠ (nd : Int) - 1) && ((eachN n).take j).any fun c => decide (c.ch = (i : Int)))
theorem ledSo_zero (nd : Nat) (l : List NC) (i : Nat) : ledSo nd l 0 0 i = false := by
  unfold ledSo ledTo
  cases l[0]? <;> simp
theorem ledSo_next {nd : Nat} {l : List NC} {k : Nat} {n : NC} (h : l[k]? = some n) (i : Nat) : ledSo nd l (k + 1) 0 i = ledSo nd l k (eachN n).length i := by
  unfold ledSo ledTo
  rw [take_snoc_get h, List.any_append, h]
  simp only [List.take_length]
  cases l[k + 1]? <;> simp
theorem ledSo_last {nd : Nat} {l : List NC} {k : Nat} {n : NC} (h : l[k]? = some n) (hd : n.dim = (nd : Int) - 1) (i : Nat) : ledSo nd l (k + 1) 0 i = ledSo nd l k 0 i := by
  unfold ledSo ledTo
  rw [take_snoc_get h, List.any_append, h]
  cases l[k + 1]? <;> simp [hd]
theorem ledSo_cell {nd : Nat} {l : List NC} {k j : Nat} {n : NC} {c : Cl} (h : l[k]? = some n) (hc : (eachN n)[j]? = some c) (i : Nat) : ledSo nd l k (j + 1) i = (ledSo nd l k j i || (decide (n.dim ≠ (nd : Int) - 1) && decide (c.ch = (i : Int)))) := by
  unfold ledSo
  rw [h]
  simp only [take_snoc_get hc, List.any_append, List.any_cons, List.any_nil, Bool.or_false]
  rw [Bool.and_or_distrib_left, Bool.or_assoc]
theorem ledSo_all {nd : Nat} {l : List NC} (i : Nat) : ledSo nd l l.length 0 i = ledTo nd l i := by
  unfold ledSo
  rw [List.take_length, List.getElem?_eq_none (Nat.le_refl _)]
  simp
theorem getLast_get {α : Type} {l : List α} (h : l ≠ []) : ∃ n, l[l.length - 1]? = some n ∧ l.getLast? = some n := by
  have hl : 0 < l.length := List.length_pos_iff.2 h
  refine ⟨l[l.length - 1]'(by omega), List.getElem?_eq_getElem (by omega), ?_⟩
  rw [List.getLast?_eq_getElem?, List.getElem?_eq_getElem (by omega)]
theorem wholeC_nil (nd : Nat) : wholeC nd [] = true := rfl
theorem wholeC_some {nd : Nat} {l : List NC} {n : NC} (h : l.getLast? = some n) : wholeC nd l = (decide (n.dim = 0) && (List.range (l.length - 1)).all (ledTo nd l)) := by unfold wholeC; rw [h]

end Go.Proofs.Ytlclllkjnhgbjaa
