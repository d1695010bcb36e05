/- Where places lead. -/
import Derived.Test.YtlclllkjnhgbjaaMovA
namespace Go.Proofs.Ytlclllkjnhgbjaa
open Go.RowKit
set_option linter.unusedVariables false
set_option linter.unusedSimpArgs false


/-- Where places lead. -/
def plc (l : List Int) (c : Int) : Int := if 0 ≤ c ∧ c < l.length then (l[c.toNat]?).getD 0 else c
def gcl (inner : Bool) (g : Int → Int) (c : Cl) : Cl := if inner then mvCl g c else c
theorem gcl_false (g : Int → Int) : gcl false g = id := rfl
theorem gcl_true (g : Int → Int) : gcl true g = mvCl g := rfl
theorem moveC_gcl (nd : Nat) (g : Int → Int) (n : NC) : moveC nd g n = ⟨n.dim, n.ls.map (List.map (gcl (n.dim != (nd : Int) - 1) g)), gcl (n.dim != (nd : Int) - 1) g n.all⟩ := by
  unfold moveC
  by_cases h : n.dim = (nd : Int) - 1
  · have h2 : (n.dim != (nd : Int) - 1) = false := by simpa using h
    rw [if_pos h, h2, gcl_false]
    simp
  · have h2 : (n.dim != (nd : Int) - 1) = true := by simpa using h
    rw [if_neg h, h2, gcl_true]
theorem drop_cons' {α : Type} {l : List α} {i : Nat} {x : α} (h : l[i]? = some x) : l.drop i = x :: l.drop (i + 1) := by
  obtain ⟨hj, rfl⟩ := List.getElem?_eq_some_iff.1 h
  exact List.drop_eq_getElem_cons hj
theorem take_snoc' {α : Type} {l : List α} {i : Nat} {x : α} (h : l[i]? = some x) : l.take (i + 1) = l.take i ++ [x] := by rw [List.take_add_one, h]; rfl
theorem i64_plc {l : List Int} {c : Int} (hl : ∀ z ∈ l, I64 z) (hc : I64 c) : I64 (plc l c) := by
  unfold plc
  split
  · cases h : l[c.toNat]? with
    | none => exact z_i64
    | some z => exact hl z (List.mem_of_getElem? h)
  · exact hc

end Go.Proofs.Ytlclllkjnhgbjaa
