/- Searches among cells. -/
import Derived.Test.YtlclllkjnhgbjaaAreF
import Derived.Test.YtlclllkjnhgbjaaAreL
import Derived.Test.YtlclllkjnhgbjaaBl
namespace Go.Proofs.Ytlclllkjnhgbjaa
open Go.RowKit
set_option linter.unusedVariables false
set_option linter.unusedSimpArgs false


/-- Keys rise. -/
def RiseL (l : List Cl) : Prop := ∀ (i j : Nat) a b, i < j → l[i]? = some a → l[j]? = some b → a.key < b.key
/-- The cell of a place of a member. -/
def pfind (n : NC) (t k : Int) : Option Cl := if n.ls.length = 0 ∨ (n.ls.length : Int) ≤ t then none else if t < 0 then some n.all else ((n.ls[t.toNat]?).getD []).find? (fun c => c.key == k)
/-- Where a key stands, or would stand. -/
structure IsAtC (l : List Cl) (k : Int) (p : Nat) : Prop where
  le : p ≤ l.length
  lo : ∀ m c, m < p → l[m]? = some c → c.key < k
  hi : ∀ m c, p ≤ m → l[m]? = some c → k ≤ c.key
def metC (l : List Cl) (k : Int) (p : Nat) : Bool := match l[p]? with | some c => c.key == k | none => false
theorem find_first {l : List Cl} {k : Int} : ∀ {p : Nat} {c : Cl}, l[p]? = some c → c.key = k → (∀ m d, m < p → l[m]? = some d → d.key ≠ k) → l.find? (fun c => c.key == k) = some c := by
  induction l with
  | nil => intro p c h; simp at h
  | cons x l ih =>
    intro p c h hc hm
    cases p with
    | zero =>
      simp at h
      subst h
      rw [List.find?_cons_of_pos (by simpa using hc)]
    | succ p =>
      rw [List.find?_cons_of_neg (by have := hm 0 x (by omega) rfl; simpa using this)]
      exact ih (by simpa using h) hc fun m d hmp hd => hm (m + 1) d (by omega) (by simpa using hd)
theorem find_none {l : List Cl} {k : Int} (h : ∀ (m : Nat) c, l[m]? = some c → c.key ≠ k) : l.find? (fun c => c.key == k) = none := by
  rw [List.find?_eq_none]
  intro c hc
  obtain ⟨m, hm⟩ := List.mem_iff_getElem?.1 hc
  simpa using h m c hm
theorem isAt_met {l : List Cl} {k : Int} {p : Nat} (h : IsAtC l k p) (hm : metC l k p = true) : ∃ c, l[p]? = some c ∧ l.find? (fun c => c.key == k) = some c := by
  unfold metC at hm
  cases hp : l[p]? with
  | none => rw [hp] at hm; cases hm
  | some c =>
    rw [hp] at hm
    exact ⟨c, rfl, find_first hp (by simpa using hm) fun m d hmp hd => by have := h.lo m d hmp hd; omega⟩
theorem isAt_not {l : List Cl} {k : Int} {p : Nat} (hr : RiseL l) (h : IsAtC l k p) (hm : metC l k p = false) : l.find? (fun c => c.key == k) = none := by
  refine find_none fun m c hc he => ?_
  rcases Nat.lt_trichotomy m p with h1 | h1 | h1
  · have := h.lo m c h1 hc; omega
  · subst h1
    unfold metC at hm
    rw [hc] at hm
    simp at hm
    exact hm he
  · have hml := (List.getElem?_eq_some_iff.1 hc).1
    have hp : l[p]? = some (l[p]'(by omega)) := List.getElem?_eq_getElem (by omega)
    have h2 := hr p m _ c h1 hp hc
    have h3 := h.hi p _ (Nat.le_refl _) hp
    omega
def BPostC (l : List Cl) (k : Int) (w : World) (e : Ending) (w' : World) : Prop := ∃ p, IsAtC l k p ∧ e = .returned (.tuple #[.int .i64 (p : Nat), .bool (metC l k p)]) ∧ Bel w w'

theorem cmpI_lt {a b : Int} (h : a < b) : cmpI a b = -1 := if_pos h
theorem cmpI_ge {a b : Int} (h : ¬ a < b) : 0 ≤ cmpI a b ∧ (cmpI a b = 0 ↔ a = b) := by
  unfold cmpI
  rw [if_neg h]
  split
  · exact ⟨by omega, by omega⟩
  · exact ⟨by omega, by omega⟩
end Go.Proofs.Ytlclllkjnhgbjaa
