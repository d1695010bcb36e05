/- Where the document's scan stands, against what is read. -/
import Derived.Test.YtnjpoamebkehbaaTermX
namespace Go.Proofs.Ytnjpoamebkehbaa
open Go.RowKit
set_option linter.unusedVariables false
set_option linter.unusedSimpArgs false

/-- A scan stands where a reading came to. -/
def SRes {α : Type} (s : List UInt8) (o : PR α) (t k : Int) (x : α) : Prop :=
  (k ≠ 0 ∧ o = .error k) ∨ (k = 0 ∧ ∃ tn : Nat, t = tn ∧ tn ≤ s.length ∧ o = .ok (x, s.drop tn))
def pbind {α β : Type} (o : PR α) (f : α → List UInt8 → PR β) : PR β := match o with | .error e => .error e | .ok (x, r) => f x r
def pbind2 {α β : Type} (o : PR α) (f : α → β) : PR β := match o with | .error e => .error e | .ok (x, r) => .ok (f x, r)
theorem SRes.start (s : List UInt8) (tn : Nat) (h : tn ≤ s.length) : SRes s (.ok ((), s.drop tn)) tn 0 () := .inr ⟨rfl, tn, rfl, h, rfl⟩
theorem SRes.map {α β : Type} {s : List UInt8} {o : PR α} {t k : Int} {x : α} (h : SRes s o t k x) (f : α → β) : SRes s (pbind2 o f) t k (f x) := by
  rcases h with ⟨h1, h2⟩ | ⟨h1, tn, h3, h4, h2⟩
  · exact .inl ⟨h1, by rw [h2]; rfl⟩
  · exact .inr ⟨h1, tn, h3, h4, by rw [h2]; rfl⟩
theorem SPost.res {α : Type} {s : List UInt8} {o : PR α} {V : α → Value} {z : Value} {w w' : World} {e : Ending} (h : SPost s o V z w e w') (z0 : α) (hz : V z0 = z) (hk : ∀ k, o = .error k → k ≠ 0) :
    ∃ (t k : Int) (x : α), e = .returned (.tuple #[scn s t k, V x]) ∧ Bel w w' ∧ Hid (SRes s o t k x) := by
  obtain ⟨hb, hm⟩ := h
  cases o with
  | error k =>
    obtain ⟨t, rfl⟩ := hm
    exact ⟨t, k, z0, by rw [hz], hb, .inl ⟨hk k rfl, rfl⟩⟩
  | ok q =>
    obtain ⟨x, l⟩ := q
    obtain ⟨t, ht, hl, rfl⟩ := hm
    exact ⟨t, 0, x, rfl, hb, .inr ⟨rfl, t, rfl, ht, by rw [hl]⟩⟩
theorem ptxt_err {most k : Int} {l : List UInt8} (h : ptxt most l = .error k) : k = 3 ∨ k = 5 := by
  unfold ptxt at h
  split at h
  · rename_i h2
    injection h with h
    subst h
    exact pnum_err h2
  · exact .inl (pfix_err h).1

end Go.Proofs.Ytnjpoamebkehbaa
