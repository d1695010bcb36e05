/- Rows of the call's own that stand apart from each other. -/
import Derived.Test.YtnjpoamebkehbaaMemB
namespace Go.Proofs.Ytnjpoamebkehbaa
open Go.RowKit
set_option linter.unusedVariables false

/-- Two slices of the call's own do not share memory. -/
def Apart (u v : Value) : Prop := ∀ b, u.ownBlock = some b → v.ownBlock ≠ some b
theorem Apart.symm {u v : Value} (h : Apart u v) : Apart v u := fun b hv hu => h b hu hv
theorem apart_nil (u : Value) : Apart u (.slice none 0 0) := fun b _ h => by simp [Value.ownBlock] at h

section
variable {w w' : World} {base : Nat} {e e' : TypeId} {size n size' n' : Nat} {u v v' : Value} {xs ys : List Value}
theorem own_lt (h : w.ownsRow base e size v n xs) {b : Nat} (hb : v.ownBlock = some b) : b < w.heap.size := (h.lt b hb).2
theorem own_ge (h : w.ownsRow base e size v n xs) {b : Nat} (hb : v.ownBlock = some b) : base ≤ b := (h.lt b hb).1
theorem own_blk (h : w.ownsRow base e size v n xs) {b : Nat} (hb : v.ownBlock = some b) : ∃ cs, Blk w b e cs := by
  rcases h.2 with ⟨rfl, _⟩ | ⟨g, cap, cur, rfl, _, hh, _⟩
  · simp [Value.ownBlock] at hb
  · have : g = b := by simpa [Value.ownBlock] using hb
    subst this
    exact ⟨cur, hh⟩
theorem apart_types (hu : w.ownsRow base e size u n xs) (hv : w.ownsRow base e' size' v n' ys) (hne : e ≠ e') : Apart u v := fun b h1 h2 => by
  obtain ⟨cs, hc⟩ := own_blk hu h1
  obtain ⟨ds, hd⟩ := own_blk hv h2
  exact Blk.ne_ hc hd hne rfl
theorem own_grown (h : w.ownsRow base e size u n xs) (hg : w.grownBy w' v.ownBlock) (ha : Apart u v) : w'.ownsRow base e size u n xs := by
  refine h.kept hg ?_
  cases hu : u.ownBlock with
  | none => exact .inl rfl
  | some k => exact .inr (fun e => ha k hu e.symm)
theorem apart_grown (h : w.ownsRow base e size u n xs) (ha : Apart u v) (hv : v'.ownBlock = v.ownBlock ∨ v'.ownBlock = some w.heap.size) : Apart u v' := fun b h1 h2 => by
  rcases hv with hv | hv
  · exact ha b h1 (hv ▸ h2)
  · have := own_lt h h1
    rw [hv] at h2
    injection h2 with h2
    omega
theorem own_set (h : w.ownsRow base e size u n xs) {p : Addr} (hp : ∀ b, u.ownBlock = some b → b ≠ p.block) (x : Value) : (w.setCell p x).ownsRow base e size u n xs := by
  refine h.kept (row := some p.block) ⟨rfl, rfl, rfl, by simp [World.setCell], fun i hi hne => Below.heap_setCell w _ _ i (fun e => hne (by rw [e]))⟩ ?_
  cases hu : u.ownBlock with
  | none => exact .inl rfl
  | some k => exact .inr (fun e => hp k hu (by injection e))
end

end Go.Proofs.Ytnjpoamebkehbaa
