/- dim.Take; the law's reading of a dimension with which bytes begin. -/
import Derived.Test.YtnekknemjhlgdaaDimR
namespace Go.Proofs.Ytnekknemjhlgdaa
open Go.RowKit
set_option linter.unusedVariables false
set_option linter.unusedSimpArgs false

theorem dm_nil_new {m : Nat} : ∀ g, (rDm Dm.nil).D g → m ≤ g := by
  rintro g (h | ⟨T, hT, _⟩)
  · simp [Row.v, Value.ownBlock] at h
  · cases hT
/-- What is read is laid in a block of the reading function's own. -/
def Rdm (w0 : World) (s : List UInt8) (B g : Nat) (l : List Res) (o : PR DC) (K : PR DC → Int) (k : Int) (w' : World) : Prop :=
  k = K o ∧ ∃ (D : Dm) (q : List UInt8), SL No w0 w' (rAll B s q (rBlk g 64 D.cs :: (l ++ [rDm D]))) ∧ ∀ d r, o = .ok (d, r) → D.con = d
/-- What Take answers. -/
def dmtake (s : List UInt8) : DC × Int :=
  match pdim s with
  | .error k => (DC.nil, k)
  | .ok (t, l) => if l = [] then (t, 0) else (DC.nil, 3)
def Tkdm (r : DC × Int) (w : World) (e : Ending) (w' : World) : Prop := ∃ D : Dm, e = .returned (.tuple #[.agg D.cs, .int .i64 r.2]) ∧ D.con = r.1 ∧ Bel w w' ∧ NewR w w' (rDm D)

end Go.Proofs.Ytnekknemjhlgdaa
