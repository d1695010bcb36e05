/- Walk of slices.BinarySearchFunc by fact.Compare, in a row that rises. -/
import Derived.Test.YtnekknemjhlgdaaFactF
namespace Go.Proofs.Ytnekknemjhlgdaa
open Go.RowKit
set_option linter.unusedVariables false
attribute [local go_sem] fct_get0

/-- The tuple that stands at a place. -/
theorem chain_le {l : List (List Int)} (h : chain lessK l = true) : ∀ {i j : Nat} {a b : List Int}, i < j → l[i]? = some a → l[j]? = some b → cmpK a b = -1 := by
  induction l with
  | nil => intro i j a b _ ha; simp at ha
  | cons x l ih =>
    intro i j a b hij ha hb
    cases l with
    | nil =>
      cases j with
      | zero => omega
      | succ j => simp at hb
    | cons y l =>
      rw [chain, Bool.and_eq_true] at h
      have hxy : cmpK x y = -1 := by have := h.1; unfold lessK at this; simpa using this
      cases j with
      | zero => omega
      | succ j =>
        rw [List.getElem?_cons_succ] at hb
        cases i with
        | zero =>
          simp at ha
          subst ha
          cases j with
          | zero => simp at hb; subst hb; exact hxy
          | succ j => exact cmpK_trans hxy (ih h.2 (i := 0) (j := j + 1) (by omega) rfl hb)
        | succ i =>
          rw [List.getElem?_cons_succ] at ha
          exact ih h.2 (by omega) ha hb
theorem below_of {l : List (List Int)} (h : chain lessK l = true) {i j : Nat} {a b t : List Int} (hij : i ≤ j) (ha : l[i]? = some a) (hb : l[j]? = some b) (hbt : cmpK b t = -1) : cmpK a t = -1 := by
  rcases Nat.lt_or_ge i j with h1 | h1
  · exact cmpK_trans (chain_le h h1 ha hb) hbt
  · have : i = j := by omega
    subst this
    rw [ha] at hb
    injection hb with hb
    subst hb
    exact hbt
/-- Where a tuple stands, or would stand. -/
structure IsAt (l : List Fct) (t : List Int) (p : Nat) : Prop where
  le : p ≤ l.length
  lo : ∀ m f, m < p → l[m]? = some f → cmpK f.ks.l t = -1
  hi : ∀ m f, p ≤ m → l[m]? = some f → ¬ cmpK f.ks.l t = -1
def metAt (l : List Fct) (t : List Int) (p : Nat) : Bool := match l[p]? with | some f => cmpK f.ks.l t == 0 | none => false
def FindPost (l : List Fct) (t : List Int) (w : World) (e : Ending) (w' : World) : Prop := ∃ p, IsAt l t p ∧ e = .returned (.tuple #[.int .i64 (p : Nat), .bool (metAt l t p)]) ∧ Bel w w'
theorem fcompare_val {f g : Fct} {w : World} {r : Int} (h : cmpK f.ks.l g.ks.l = r) (hf : f.ok w) (hg : g.ok w) :
    Calls Try.prog 109 #[.agg f.cs, .agg g.cs] w fun e w' => e = .returned (.int .i64 r) ∧ Bel w w' := by
  have := fcompare_any f g w hf hg
  rw [h] at this
  exact this

/-- fact.Compare as a value. -/
abbrev cmpV : Value := .func (.func 109) #[] #[]

end Go.Proofs.Ytnekknemjhlgdaa
