/- Some of a call's pieces handed to another call, that turns these alone. -/
import Derived.Test.YtlclllkjnhgbjaaSep
namespace Go.Proofs.Ytlclllkjnhgbjaa
open Go.RowKit
set_option linter.unusedVariables false
set_option linter.unusedSimpArgs false

/-- Where pieces lie. -/
def DomL (m : List Res) (g : Nat) : Prop := ∃ (i : Nat) (r : Res), m[i]? = some r ∧ r.D g
theorem get_app {l m : List Res} {j : Nat} {q : Res} (hq : (l ++ m)[j]? = some q) : (l[j]? = some q ∧ j < l.length) ∨ (m[j - l.length]? = some q ∧ l.length ≤ j) := by
  rcases Nat.lt_or_ge j l.length with hj | hj
  · rw [List.getElem?_append_left hj] at hq
    exact .inl ⟨hq, hj⟩
  · rw [List.getElem?_append_right hj] at hq
    exact .inr ⟨hq, hj⟩
section
variable {S : Nat → Prop} {w0 w w' : World} {l m m' : List Res}
theorem SL.focus (h : SL S w0 w (l ++ m)) : SL (DomL m) w w m := by
  have key : ∀ (i : Nat) r, m[i]? = some r → (l ++ m)[l.length + i]? = some r := fun i r hi => by rw [List.getElem?_append_right (by omega)]; rw [show l.length + i - l.length = i by omega]; exact hi
  exact ⟨Fr.refl _ _, fun i r hi => h.all _ r (key i r hi), fun i j r q hij hi hj => h.dis (l.length + i) (l.length + j) r q (by omega) (key i r hi) (key j q hj), fun i r hi g hg => .inr ⟨i, r, hi, hg⟩⟩
theorem SL.unfocus (h : SL S w0 w (l ++ m)) (k : SL (DomL m) w w' m') : SL S w0 w' (l ++ m') := by
  have keyl : ∀ (i : Nat) r, l[i]? = some r → (l ++ m)[i]? = some r := fun i r hi => by
    have := (List.getElem?_eq_some_iff.1 hi).1
    rw [List.getElem?_append_left this]; exact hi
  have keym : ∀ (i : Nat) r, m[i]? = some r → (l ++ m)[l.length + i]? = some r := fun i r hi => by rw [List.getElem?_append_right (by omega)]; rw [show l.length + i - l.length = i by omega]; exact hi
  have keep : ∀ (i : Nat) r, l[i]? = some r → ∀ g, r.D g → ¬ DomL m g := fun i r hi g hg ⟨j, q, hj, hq⟩ => by
    have hil := (List.getElem?_eq_some_iff.1 hi).1
    exact h.dis i (l.length + j) r q (by omega) (keyl i r hi) (keym j q hj) g hg hq
  have dom : ∀ g, DomL m g → w0.heap.size ≤ g ∨ S g := fun g ⟨j, q, hj, hq⟩ => h.own _ q (keym j q hj) g hq
  refine ⟨h.fr.trans k.fr (fun g hg => (dom g hg).symm), fun i r hi => ?_, fun i j r q hij hi hj g hg hg' => ?_, fun i r hi g hg => ?_⟩
  · rcases get_app hi with ⟨hi, _⟩ | ⟨hi, _⟩
    · have h1 := h.all _ r (keyl i r hi)
      exact h1.keep k.fr.size fun g hg => k.fr.block g (h1.1 g hg) (keep i r hi g hg)
    · exact k.all _ r hi
  · have cross : ∀ (a b : Nat) r q, l[a]? = some r → m'[b]? = some q → ∀ g, r.D g → ¬ q.D g := fun a b r q ha hb g hg hg' => by
      rcases k.own b q hb g hg' with h1 | h1
      · have := (h.all _ r (keyl a r ha)).1 g hg
        omega
      · exact keep a r ha g hg h1
    rcases get_app hi with ⟨hi, _⟩ | ⟨hi, hi2⟩
    · rcases get_app hj with ⟨hj, _⟩ | ⟨hj, _⟩
      · exact h.dis i j r q hij (keyl i r hi) (keyl j q hj) g hg hg'
      · exact cross i _ r q hi hj g hg hg'
    · rcases get_app hj with ⟨hj, _⟩ | ⟨hj, hj2⟩
      · exact cross j _ q r hj hi g hg' hg
      · exact k.dis (i - l.length) (j - l.length) r q (by omega) hi hj g hg hg'
  · rcases get_app hi with ⟨hi, _⟩ | ⟨hi, _⟩
    · exact h.own i r (keyl i r hi) g hg
    · rcases k.own _ r hi g hg with h1 | h1
      · exact .inl (Nat.le_trans h.fr.size h1)
      · exact dom g h1
end

end Go.Proofs.Ytlclllkjnhgbjaa
